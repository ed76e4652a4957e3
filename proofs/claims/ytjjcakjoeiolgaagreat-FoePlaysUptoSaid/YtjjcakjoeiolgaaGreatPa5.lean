import Derived.Test.YtjjcakjoeiolgaaGreatPa3
import Derived.Test.YtjjcakjoeiolgaaGreatPa4
import Derived.Test.YtjjcakjoeiolgaaGreatProg
import Derived.KernelRfl
set_option linter.defProp false
set_option linter.unusedVariables false
set_option linter.unusedSimpArgs false
section
open Go Go.SE List
open Go.IntKind renaming i64 -> q6
open Go renaming World->af,Value->bk,Addr->ao,Ending->fb,Program->ez,TypeId->dz
open Option renaming some->ab,none->bo
open Bool renaming true->ai,false->ak
open Go.Builtin renaming append_->cm
open Prod.mk renaming injEq->ei
open Go.IntKind renaming u64->dc
namespace Go.Proofs
open Tryz
set_option maxRecDepth 100000
set_option maxHeartbeats 4000000
attribute [local irreducible] cr ed dv de Calls CallsD
attribute [local irreducible] ee W WV WR uP pv e0 eh fe ka ek el ev eu fa dw di dn fc eo kp yS xA yF bn ub
structure nn(S:NP)(w:af)(a:ao)(s:Sl)(bs:List UInt8)(at_ gd spot:Int):Prop where
 box:az w a [s.v,vi at_,vi gd,vi spot] 319
 gS:gr S w 1 s (gO bs)
 apart:∀b,S b->b≠a.block
 rj:bs.length<=100000000000
 room:s.ay<=s.cap
def xa(e:Int):List PanicEntry:=[{ v:=.iface 334<|vi e,recovered:=ak }]
section
variable {S:NP} {w w':af} {a:ao} {s:Sl} {bs:List UInt8} {at_ gd spot:Int}
def nn.ext{F}(h:nn S w a s bs at_ gd spot)(E:aj F w w')(d:∀b,S b->¬F b)(c:¬F a.block):nn S w' a s bs at_ gd spot:=
 ⟨h.box.ext E c,h.gS.ext E d,h.apart,h.rj,h.room⟩
def nn.pure(h:nn S w a s bs at_ gd spot)(E:aq w w'):nn S w' a s bs at_ gd spot:=h.ext E (fun _ _ h=>h) id
def nn.oA(h:nn S w a s bs at_ gd spot):w.cell? (a.add 1)=ab (vi at_):=h.box.cell (i:=1) rfl
def nn.sF(h:nn S w a s bs at_ gd spot):w.cell? (a.add 2)=ab (vi gd):=h.box.cell (i:=2) rfl
def nn.xv(h:nn S w a s bs at_ gd spot)(k):nn S (w.setCell (a.add 1)<|vi k) a s bs k gd spot:=
 ⟨h.box.set 1 _,h.gS.ext (aj.setCell _ _) fun b c e=>h.apart b c (by rw[zD]at e;exact e),h.apart,h.rj,h.room⟩
def nn.IB(h:nn S w a s bs at_ gd spot)(k):nn S (w.setCell (a.add 2)<|vi k) a s bs at_ k spot:=
 ⟨h.box.set 2 _,h.gS.ext (aj.setCell _ _) fun b c e=>h.apart b c (by rw[zD]at e;exact e),h.apart,h.rj,h.room⟩
def nn.Ko(h:nn S w a s bs at_ gd spot)(k):nn S (w.setCell (a.add 3)<|vi k) a s bs at_ gd k:=
 ⟨h.box.set 3 _,h.gS.ext (aj.setCell _ _) fun b c e=>h.apart b c (by rw[zD]at e;exact e),h.apart,h.rj,h.room⟩
def qP{k v}:aj (·=a.block) w (w.setCell (a.add k) v):=(aj.setCell _ _).mono (fun i _ e=>by rw[zD]at e;exact e)
end
def OR{S}(a s bs)(at_:Nat)(gd spot:Int)(w0)(h:nn S w0 a s bs at_ gd spot)(n:at_<=bs.length):
  cl 296 #[vp<|ab a] w0 (fun e w'=>(∃b,e=.returned (.int .u8 (bs[at_].toNat:Int))/\nn S w' a s bs ((at_+1:Nat):Int) gd spot/\aj (·=a.block) w0 w') \/
   (at_=bs.length/\e=.panicked (xa 3)/\nn S w' a s bs at_ gd spot/\aj (·=a.block) w0 w')):=by
 refine(jaF (ab a) w0 (fun o r w'=>(∃b,o=bo/\r=(bs[at_].toNat:Int)/\nn S w' a s bs ((at_+1:Nat):Int) gd spot/\aj (·=a.block) w0 w')\/(at_=bs.length/\o=ab (xa 3)/\nn S w' a s bs at_ gd spot/\aj (·=a.block) w0 w')) ?_).mono ?_
 .refine⟨a,rfl,fun q hs=>?_⟩
  have h1:=h.pure hs.first
  have p:s.ay=bs.length:=by rw[h.gS.ay,vW]
  refine⟨_,h1.oA,a,rfl,s,h1.box.dj,fun g=>?_,fun g=>?_⟩
  .have:at_=bs.length:=Oh<|beq_iff_eq.1 g
   exact .inr ⟨this,rfl,h1,aj.pure hs.first⟩
  .have l:at_≠bs.length:=Oh<|beq_eq_false_iff_ne.1 g
   have b:at_<bs.length:=Om
   refine⟨a,rfl,_,h1.oA,a,rfl,h1.box.im (i:=1) Sm,id,?_⟩
   rintro t rfl
   have m:=zI b<|Oh h.rj
   rw[m]
   have h2:=h1.xv ((at_+1:Nat):Int)
   refine⟨a,rfl,fun u d=>?_⟩
   have h3:=h2.pure d.ext
   have k:q6.wrap (((at_+1:Nat):Int)-1)=(at_:Int):=by
    rw[IntWalk.i64_in _<|Oh h.rj];omega
   have⟨c,j,_,f⟩:=Ci h3.gS b
   refine⟨s,h3.box.dj,a,rfl,_,h3.oA,c,?_,_,f,.inl ⟨b,rfl,rfl,h3,((aj.pure hs.first).trans qP).mh d.ext⟩⟩
   rw[k];exact j
 .grind
def OB{S}(a s bs)(at_:Nat)(gd spot:Int)(w0)(h:nn S w0 a s bs at_ gd spot)(N:at_<=bs.length):
  cl 292 #[vp<|ab a] w0 (fun e w'=>(∃n k:Nat,xU 0 0 (bs.drop at_)=.ok (n,k)/\e=.returned (vu (n:Int))/\n<18446744073709551616/\at_+k<=bs.length/\nn S w' a s bs ((at_+k:Nat):Int) gd spot/\aj (·=a.block) w0 w') \/
   (∃x,∃um,xU 0 0 (bs.drop at_)=.error x/\e=.panicked (xa x)/\nn S w' a s bs um gd spot/\aj (·=a.block) w0 w')):=by
 refine (jcy (ab a) w0 (fun o r w' => (∃ n k : Nat, xU 0 0 (bs.drop at_) = .ok (n, k) /\ o = bo /\ r = (n : Int) /\ n < 18446744073709551616 /\ at_ + k <= bs.length /\ nn S w' a s bs ((at_ + k : Nat) : Int) gd spot /\ aj (· = a.block) w0 w') \/
   (∃x,∃um,xU 0 0 (bs.drop at_)=.error x/\o=ab (xa x)/\nn S w' a s bs um gd spot/\aj (·=a.block) w0 w')) ?_).mono ?_
 refine⟨fun n i w=>∃d k:Nat,n=(d:Int)/\i=(k:Int)/\k<=9/\d<2^(7*k)/\at_+k<=bs.length/\xU k d (bs.drop<|at_+k)=xU 0 0 (bs.drop at_)/\nn S w a s bs ((at_+k:Nat):Int) gd spot/\aj (·=a.block) w0 w,fun _ i _=>(10-i).toNat,⟨0,0,rfl,rfl,Om,Sm,Uc,rfl,Uc,aj.refl _⟩,?_⟩
 rintro _ _ wl ⟨d,k,rfl,rfl,P,m,C,b,I,z⟩
 refine(OR a s bs (at_+k) gd spot wl I C).mono ?_
 rintro e Q (⟨E,rfl,g,f⟩|⟨G,rfl,g,f⟩)
 refine .inl ⟨_,rfl,?_⟩
 have t:=drop_eq_getElem_cons E
 generalize L:bs[at_+k]=c at *
 have H:=c.toNat_lt
 rw[t,xT]at b
 refine⟨fun F=>?_,fun F=>?_⟩
 have y:k=9/\1<c.toNat:=by simp at F;omega
 rw[bt y]at b
 exact .inr ⟨11,_,b.symm,rfl,g,z.trans f⟩
 have y:¬(k=9/\1<c.toNat):=by intro hh;simp at F;omega
 rw[aw y]at b
 have v:c.toNat%128*2^(7*k)<18446744073709551616:=by
  by_cases O:k=9;subst O;omega;have K:2^(7*k)<=2^56:=Nat.pow_le_pow_right Om Om;have q:c.toNat%128<=127:=Om
  calc c.toNat%128*2^(7*k)<=127*2^56:=Nat.mul_le_mul q K
   _<18446744073709551616:=De
 have A:=Nat.lt_of_lt_of_le m (by
  calc 2^(7*k)<=2^63:=Nat.pow_le_pow_right Om Om
   _<=18446744073709551616:=by decide)
 have M:q6.wrap (7*(k:Int))=((7*k:Nat):Int):=by rw[IntWalk.i64_in _ Om];simp
 have p:128^k=2^(7*k):=by rw[Nat.pow_mul]
 have l:d |||(c.toNat%128*2^(7*k))=d+c.toNat%128*2^(7*k):=Rp m
 have B:d+c.toNat%128*2^(7*k)<18446744073709551616:=by
  rw[<-l];exact Nat.or_lt_two_pow (n:=64) A v
 unfold Ju
 rw[M]
 refine⟨_,YW c.toNat H,_,by rw[vX Om];exact ZK _ _ Om v,_,YX _ _ A v,?_⟩
 rw[l]
 refine⟨fun hs=>?_,fun hs=>?_⟩
 have j:c.toNat<128:=Oh<|ij hs
 rw[bt j]at b
 refine⟨fun D=>?_,fun D=>?_⟩
 have u:c.toNat=0/\0<k:=by simp at D;omega
 rw[bt u]at b
 exact .inr ⟨10,_,b.symm,rfl,g,z.trans f⟩
 have u:¬(c.toNat=0/\0<k):=by intro hh;simp at D;omega
 rw[aw u,p]at b
 rw[Nat.mod_eq_of_lt j]at B|-
 exact .inl ⟨_,k+1,b.symm,rfl,rfl,B,Om,g,z.trans f⟩
 have j:¬c.toNat<128:=Oh<|il hs
 rw[aw j,p]at b
 have J:k≠9:=Om
 rw[zI (n:=10) Om Om]
 refine⟨⟨_,k+1,rfl,rfl,Om,?_,Om,b,g,z.trans f⟩,Uc⟩
 have:2^(7*(k+1))=128*2^(7*k):=Uc
 rw[this]
 have q:c.toNat%128*2^(7*k)<=127*2^(7*k):=Nat.mul_le_mul_right _ Om
 omega
 refine .inr ⟨_,rfl,.inr ⟨3,_,?_,rfl,g,z.trans f⟩⟩
 rw[<-b,G,drop_length];rfl
 grind
abbrev jv(S:NP)(w:af)(a:ao)(s:Sl)(bs:List UInt8)(r:Rd):Prop:=nn S w a s bs r.at_ r.gd r.spot
def AA{w p u v T}(h:az w p [u] T):az (w.setCell p v) p [v] T:=h.nw
def nn.JT{S w a s bs at_ gd spot}(h:nn S w a s bs at_ gd spot)(f e):
  zJ w (a.add 1)/\zJ w (a.add 2)/\zJ w (a.add 3)/\nn S (((w.setCell (a.add 1)<|vi f).setCell (a.add 2)<|vi e).setCell (a.add 3)<|vi f) a s bs f e f:=
 ⟨h.box.im (i:=1) Sm,h.box.im (i:=2) Sm,h.box.im (i:=3) Sm,((h.xv f).IB e).Ko f⟩
def A7{w:af}{a:ao}{u v x:bk}:aj (·=a.block) w (((w.setCell (a.add 1) u).setCell (a.add 2) v).setCell (a.add 3) x):=(qP.trans qP).trans qP
def BL{S:NP}(a:ao)(s:Sl)(bs:List UInt8)(r:Rd)(g:af)(h:jv S g a s bs r)(H:r.at_<=bs.length)(hS:∀b,S b->b<g.heap.size):
  cl 252 #[vp<|ab a] g<|YG fun x w'=>x=((vS bs r).1:Int)/\jv S w' a s bs (vS bs r).2/\aj (·=a.block) g w':=by
 refine jcj (ab a) g _ ?_
 intro B K n1 f L n2
 have m:aq g K:=aj.bu n1
 have u:=m.trans<|aj.bu n2
 have y:=(aj.bu (F:=bl) n2).cell (az.j0 n1).dj id
 have b1:=n1.gp
 have b2:=n2.gp
 have R:B.block≠f.block:=Oh<|af.block_lt_of_cell? K B (az.j0 n1).dj
 have Q:=af.block_lt_of_cell? g a h.box.dj
 have J:=az.j0 n2
 have h2:=h.pure u
 refine⟨ab a,y,?_⟩
 have C:∀d,(az d f [vu ((vS bs r).1:Int)] 23/\jv S d a s bs (vS bs r).2/\aj (·=a.block) g d)->∃M,d.cell? f=ab (vu M)/\zJ d f/\∀c,c=d.setCell f (vu M)->∃w,c.cell? f=ab (vu w)/\(w=((vS bs r).1:Int)/\jv S c a s bs (vS bs r).2/\aj (·=a.block) g c):=by
  rintro d ⟨hB,v,t⟩;refine⟨_,hB.dj,hB.mi Sm,?_⟩;rintro c rfl;have hx:aj (·=f.block) d (d.setCell f<|vu ((vS bs r).1:Int)):=aj.setCell _ _;exact⟨_,(AA hB).dj,rfl,v.ext hx (fun b I e=>Oi (hS b I) m.size) fun e=>Oh m.size,t.ft hx fun i hi e=>Oh m.size⟩
 by_cases z:r.gd=0
 refine(HM a 291 _ r.at_ L (fun d=>az d f [vu ((vS bs r).1:Int)] 23/\jv S d a s bs (vS bs r).2/\aj (·=a.block) g d) h2.oA (by have:=h2.sF;rw[z]at this;exact this) call291 ?_).mono ?_
 intro d p W l X T D A
 have h3:=h2.pure l
 refine(jaQ B f d (fun o c=>(o=bo/\(az c f [vu ((vS bs r).1:Int)] 23/\jv S c a s bs (vS bs r).2/\aj (·=a.block) g c))\/(∃x,o=ab (xa x)/\c.cell? p=ab (vp<|ab a)/\c.cell? W=ab (vi r.at_)/\zJ c (a.add 1)/\zJ c (a.add 2)/\zJ c (a.add 3) /\
  (az (((c.setCell (a.add 1)<|vi r.at_).setCell (a.add 2)<|vi x).setCell (a.add 3)<|vi r.at_) f [vu ((vS bs r).1:Int)] 23/\jv S (((c.setCell (a.add 1)<|vi r.at_).setCell (a.add 2)<|vi x).setCell (a.add 3)<|vi r.at_) a s bs (vS bs r).2/\aj (·=a.block) g (((c.setCell (a.add 1)<|vi r.at_).setCell (a.add 2)<|vi x).setCell (a.add 3)<|vi r.at_)))) ?_).mono ?_
 refine⟨ab a,l.cell y id,?_⟩
 refine(OB a s bs r.at_ r.gd r.spot d h3 H).mono ?_
 rintro e c (⟨n,k,E,rfl,U,P,v,t⟩|⟨x,um,E,rfl,v,t⟩)
 refine .inl ⟨_,rfl,?_⟩
 have q:az c f [vu 0] 23:=(J.pure l).ext t fun e=>Oh m.size
 refine⟨q.mi Sm,?_⟩
 rintro Z rfl
 have hx:aj (·=f.block) c (c.setCell f<|vu (n:Int)):=aj.setCell _ _
 have j:vS bs r=(n,⟨r.at_+k,0,r.spot⟩):=by simp[vS,z,E]
 rw[j]
 refine .inl ⟨rfl,AA q,?_,((aj.pure<|u.trans l).trans t).ft hx fun i hi e=>Oh m.size⟩
 have:=v.ext hx (fun b I e=>Oi (hS b I) m.size) fun e=>Oh m.size
 rw[z]at this
 exact this
 refine .inr ⟨_,rfl,.inr ⟨x,rfl,?_⟩⟩
 have j:vS bs r=(0,⟨r.at_,x,r.at_⟩):=by simp[vS,z,E]
 have q:az c f [vu 0] 23:=(J.pure l).ext t fun e=>Oh m.size
 have⟨V,O,N,G⟩:=v.JT r.at_ x
 rw[j]
 exact⟨t.cell D fun e=>Oh u.size,t.cell A fun e=>Oh u.size,V,O,N,q.ext A7 fun e=>Oh m.size,G,((aj.pure<|u.trans l).trans t).trans A7⟩
 rintro e c (⟨rfl,h⟩|⟨Y,rfl,h⟩)
 grind
 rcases h with⟨h,_⟩|⟨x,h1,h⟩
 cases h
 cases h1;exact .inr ⟨x,rfl,h⟩
 grind
 refine(G2 a _ r.gd L h2.sF Om).mono ?_
 rintro e d ⟨rfl,l⟩
 have j:vS bs r=(0,r):=by simp[vS,z]
 refine⟨rfl,C d ?_⟩
 rw[j]
 exact⟨J.pure l,h2.pure l,aj.pure<|u.trans l⟩
def jbg{S:NP}(a:ao)(s:Sl)(bs:List UInt8)(r:Rd)(g:af)(h:jv S g a s bs r)(D:r.at_<=bs.length)(hS:∀b,S b->b<g.heap.size):
  cl 272 #[vp<|ab a] g<|YF fun x w'=>x=((xK bs r).1:Int)/\jv S w' a s bs (xK bs r).2/\aj (·=a.block) g w':=by
 refine jar (ab a) g _ ?_
 intro z J n1 f K n2
 have l:aq g J:=aj.bu n1
 have q:=l.trans<|aj.bu n2
 have v:=(aj.bu (F:=bl) n2).cell (az.j0 n1).dj id
 have b1:=n1.gp
 have b2:=n2.gp
 have P:z.block≠f.block:=Oh<|af.block_lt_of_cell? J z (az.j0 n1).dj
 have O:=af.block_lt_of_cell? g a h.box.dj
 have I:=az.j0 n2
 have h2:=h.pure q
 refine⟨ab a,v,?_⟩
 have A:∀d,(az d f [.int .u8 ((xK bs r).1:Int)] 5/\jv S d a s bs (xK bs r).2/\aj (·=a.block) g d)->∃L,d.cell? f=ab (.int .u8 L)/\zJ d f/\∀c,c=d.setCell f (.int .u8 L)->∃u,c.cell? f=ab (.int .u8 u)/\(u=((xK bs r).1:Int)/\jv S c a s bs (xK bs r).2/\aj (·=a.block) g c):=by
  rintro d ⟨hB,t,n⟩;refine⟨_,hB.dj,hB.mi Sm,?_⟩;rintro c rfl;have hx:aj (·=f.block) d (d.setCell f<|.int .u8 ((xK bs r).1:Int)):=aj.setCell _ _;exact⟨_,(AA hB).dj,rfl,t.ext hx (fun b G e=>Oi (hS b G) l.size) fun e=>Oh l.size,n.ft hx fun i hi e=>Oh l.size⟩
 by_cases w:r.gd=0
 refine(HM a 295 _ r.at_ K (fun d=>az d f [.int .u8 ((xK bs r).1:Int)] 5/\jv S d a s bs (xK bs r).2/\aj (·=a.block) g d) h2.oA (by have:=h2.sF;rw[w]at this;exact this) call295 ?_).mono ?_
 intro d p T k U Q B y
 have h3:=h2.pure k
 refine(VL z f d (fun o c=>(o=bo/\(az c f [.int .u8 ((xK bs r).1:Int)] 5/\jv S c a s bs (xK bs r).2/\aj (·=a.block) g c))\/(∃x,o=ab (xa x)/\c.cell? p=ab (vp<|ab a)/\c.cell? T=ab (vi r.at_)/\zJ c (a.add 1)/\zJ c (a.add 2)/\zJ c (a.add 3) /\
  (az (((c.setCell (a.add 1)<|vi r.at_).setCell (a.add 2)<|vi x).setCell (a.add 3)<|vi r.at_) f [.int .u8 ((xK bs r).1:Int)] 5/\jv S (((c.setCell (a.add 1)<|vi r.at_).setCell (a.add 2)<|vi x).setCell (a.add 3)<|vi r.at_) a s bs (xK bs r).2/\aj (·=a.block) g (((c.setCell (a.add 1)<|vi r.at_).setCell (a.add 2)<|vi x).setCell (a.add 3)<|vi r.at_)))) ?_).mono ?_
 refine⟨ab a,k.cell v id,?_⟩
 refine(OR a s bs r.at_ r.gd r.spot d h3 D).mono ?_
 rintro e c (⟨E,rfl,t,n⟩|⟨H,rfl,t,n⟩)
 refine .inl ⟨_,rfl,?_⟩
 have m:az c f [.int .u8 0] 5:=(I.pure k).ext n fun e=>Oh l.size
 refine⟨m.mi Sm,?_⟩
 rintro W rfl
 have hx:aj (·=f.block) c (c.setCell f<|.int .u8 (bs[r.at_].toNat:Int)):=aj.setCell _ _
 have j:xK bs r=(bs[r.at_].toNat,⟨r.at_+1,0,r.spot⟩):=by simp[xK,w,E]
 rw[j]
 refine .inl ⟨rfl,AA m,?_,((aj.pure<|q.trans k).trans n).ft hx fun i hi e=>Oh l.size⟩
 have:=t.ext hx (fun b G e=>Oi (hS b G) l.size) fun e=>Oh l.size
 rw[w]at this
 exact this
 refine .inr ⟨_,rfl,.inr ⟨3,rfl,?_⟩⟩
 have j:xK bs r=(0,⟨r.at_,3,r.at_⟩):=by simp[xK,w,H]
 have m:az c f [.int .u8 0] 5:=(I.pure k).ext n fun e=>Oh l.size
 have⟨R,N,M,C⟩:=t.JT r.at_ 3
 rw[j]
 exact⟨n.cell B fun e=>Oh q.size,n.cell y fun e=>Oh q.size,R,N,M,m.ext A7 fun e=>Oh l.size,C,((aj.pure<|q.trans k).trans n).trans A7⟩
 rintro e c (⟨rfl,h⟩|⟨V,rfl,h⟩)
 grind
 rcases h with⟨h,_⟩|⟨x,h1,h⟩
 cases h
 cases h1;exact .inr ⟨x,rfl,h⟩
 grind
 refine(G2 a _ r.gd K h2.sF Om).mono ?_
 rintro e d ⟨rfl,k⟩
 have j:xK bs r=(0,r):=by simp[xK,w]
 refine⟨rfl,A d ?_⟩
 rw[j]
 exact⟨I.pure k,h2.pure k,aj.pure<|q.trans k⟩
def jdc{S:NP}(a:ao)(s:Sl)(bs:List UInt8)(c:Nat)(r:Rd)(j:af)(h:jv S j a s bs r)(hat:r.at_<=bs.length)(hS:∀b,S b->b<j.heap.size)(hm:c<=1000000000):
  cl 260 #[vp<|ab a,vi (c:Int)] j<|YC fun x w'=>x=⟨(qF bs c r).1.toArray⟩/\jv S w' a s bs (qF bs c r).2/\aj (·=a.block) j w':=by
 refine SN (ab a) c j _ ?_
 intro U w1 n1 pm w1' nm g w2 n2
 have E1:aq j w1:=aj.bu n1
 have R:=E1.trans<|aj.bu nm
 have K:=R.trans<|aj.bu n2
 have B:=(aj.bu (F:=bl) nm).cell (az.j0 n1).dj id
 have C:=(aj.bu (F:=bl) n2).cell B id
 have O:=(aj.bu (F:=bl) n2).cell (az.j0 nm).dj id
 have b1:=n1.gp
 have bm:=nm.gp
 have b2:=n2.gp
 have b12:U.block≠g.block:=Oh<|af.block_lt_of_cell? w1' U B
 have ha0:=af.block_lt_of_cell? j a h.box.dj
 have B2:=az.j0 n2
 have h2:=h.pure K
 have g1:j.heap.size<=g.block:=Oh R.size
 have g2:j.heap.size<=U.block:=Om
 have g3:j.heap.size<=pm.block:=Oh E1.size
 refine⟨ab a,C,?_⟩
 have W:∀f,(az f g [vs ⟨(qF bs c r).1.toArray⟩] 9/\jv S f a s bs (qF bs c r).2/\aj (·=a.block) j f)->∃v2,f.cell? g=ab (vs v2)/\zJ f g/\∀d,d=f.setCell g (vs v2)->∃L,d.cell? g=ab (vs L)/\(L=⟨(qF bs c r).1.toArray⟩/\jv S d a s bs (qF bs c r).2/\aj (·=a.block) j d):=by
  rintro f ⟨hB,A,l⟩;refine⟨_,hB.dj,hB.mi Sm,?_⟩;rintro d rfl;have hx:aj (·=g.block) f (f.setCell g<|vs ⟨(qF bs c r).1.toArray⟩):=aj.setCell _ _;exact⟨_,(AA hB).dj,rfl,A.ext hx Gd fun e=>Om,l.ft hx fun i hi e=>Om⟩
 by_cases E:r.gd=0
 refine(HM a 293 _ r.at_ w2 (fun f=>az f g [vs ⟨(qF bs c r).1.toArray⟩] 9/\jv S f a s bs (qF bs c r).2/\aj (·=a.block) j f) h2.oA (by have:=h2.sF;rw[E]at this;exact this) call293 ?_).mono ?_
 intro f p pf q hp hpf X Q
 have h3:=h2.pure q
 refine(w_Z U pm g f (fun o d=>(o=bo/\(az d g [vs ⟨(qF bs c r).1.toArray⟩] 9/\jv S d a s bs (qF bs c r).2/\aj (·=a.block) j d))\/(∃x,o=ab (xa x)/\d.cell? p=ab (vp<|ab a)/\d.cell? pf=ab (vi r.at_)/\zJ d (a.add 1)/\zJ d (a.add 2)/\zJ d (a.add 3) /\
  (az (((d.setCell (a.add 1)<|vi r.at_).setCell (a.add 2)<|vi x).setCell (a.add 3)<|vi r.at_) g [vs ⟨(qF bs c r).1.toArray⟩] 9/\jv S (((d.setCell (a.add 1)<|vi r.at_).setCell (a.add 2)<|vi x).setCell (a.add 3)<|vi r.at_) a s bs (qF bs c r).2/\aj (·=a.block) j (((d.setCell (a.add 1)<|vi r.at_).setCell (a.add 2)<|vi x).setCell (a.add 3)<|vi r.at_)))) ?_).mono ?_
 refine⟨ab a,q.cell C id,?_⟩
 refine(OB a s bs r.at_ r.gd r.spot f h3 hat).mono ?_
 have v:∀(x:Nat)(um:Int)d,qF bs c r=([],⟨r.at_,x,r.at_⟩)->nn S d a s bs um r.gd r.spot->aj (·=a.block) f d->(∃y,ab (xa x)=ab (xa y)/\d.cell? p=ab (vp<|ab a)/\d.cell? pf=ab (vi r.at_)/\zJ d (a.add 1)/\zJ d (a.add 2)/\zJ d (a.add 3) /\
  (az (((d.setCell (a.add 1)<|vi r.at_).setCell (a.add 2)<|vi y).setCell (a.add 3)<|vi r.at_) g [vs ⟨(qF bs c r).1.toArray⟩] 9/\jv S (((d.setCell (a.add 1)<|vi r.at_).setCell (a.add 2)<|vi y).setCell (a.add 3)<|vi r.at_) a s bs (qF bs c r).2/\aj (·=a.block) j (((d.setCell (a.add 1)<|vi r.at_).setCell (a.add 2)<|vi y).setCell (a.add 3)<|vi r.at_))):=by
  intro x um d u A l
  have hB4:az d g [vs ⟨#[]⟩] 9:=(B2.pure q).ext l fun e=>Om
  have⟨c1,c2,c3,hR'⟩:=A.JT r.at_ x
  rw[u]
  exact⟨x,rfl,l.cell X fun e=>Oh K.size,l.cell Q fun e=>Oh K.size,c1,c2,c3,hB4.ext A7 fun e=>Om,hR',((aj.pure<|K.trans q).trans l).trans A7⟩
 rintro e d (⟨n,k,M,rfl,hlt,hle,A,l⟩|⟨x,um,M,rfl,A,l⟩)
 refine .inl ⟨_,rfl,l.ff fun b H=>H.elim,_,l.cell (q.cell O id) fun e=>Om,fun H=>?_,fun _=>⟨_,l.cell (q.cell O id) fun e=>Om,?_⟩⟩
 grind
 rw[vX Om]
 refine⟨fun H=>?_,fun H=>?_⟩
 have m:c<n:=Oh<|ij H
 exact .inr<|v 1 _ d (by simp[qF,E,M,m]) A l
 have m:¬c<n:=Oh<|il H
 intro w5 Z
 have E5:=Z.ext
 have z:=A.pure E5
 have J:=E5.cell (l.cell (q.cell C id) fun e=>Om) id
 have hl:s.ay=bs.length:=by rw[h.gS.ay,vW]
 have hsm:=h.rj
 have I:=l.mh E5
 refine⟨_,J,a,rfl,s,z.box.dj,_,J,a,rfl,_,z.oA,?_⟩
 have Y:dc.wrap (q6.wrap<|(s.ay:Int)-((r.at_+k:Nat):Int))=((bs.length-(r.at_+k):Nat):Int):=by
  rw[hl,IntWalk.i64_in _ Om,show((bs.length:Int)-((r.at_+k:Nat):Int))=((bs.length-(r.at_+k):Nat):Int) by omega,vX Om]
 dsimp only;rw[Y]
 refine⟨fun G=>?_,fun G=>?_⟩
 have hg:bs.length<r.at_+k+n:=Oh<|ij G
 exact .inr<|v 3 _ w5 (by simp[qF,E,M,m,hg]) z I
 have hg:¬bs.length<r.at_+k+n:=Oh<|il G
 have u:qF bs c r=((bs.drop<|r.at_+k).take n,⟨r.at_+k+n,0,r.spot⟩):=by simp[qF,E,M,m,hg]
 refine⟨fun _=>True,trivial,?_⟩
 intro N hw6
 have V:aq w5 N:=by rw[hw6];exact aj.drew _
 have t:=z.pure V
 have w:=V.cell J id
 have hn1:q6.wrap (n:Int)=(n:Int):=IntWalk.i64_in _ Om
 have hn2:q6.wrap (((r.at_+k:Nat):Int)+(n:Int))=((r.at_+k+n:Nat):Int):=by rw[IntWalk.i64_in _ Om];simp
 have⟨s1,hr1,hL1⟩:=t.gS.sub (k:=.i64) (lo:=r.at_+k) (n:=n) wU h.room (by rw[vW];omega)
 have T:az N g [vs ⟨#[]⟩] 9:=((B2.pure q).ext I fun e=>Om).pure V
 have hL2:gr S N 1 s1 (gO<|(bs.drop<|r.at_+k).take n):=by
  have e:(drop (r.at_+k)<|gO bs).take n=gO ((bs.drop<|r.at_+k).take n):=by simp[gO,map_take,map_drop]
  rw[<-e];exact hL1
 refine⟨_,w,a,rfl,s,t.box.dj,_,w,a,rfl,_,t.oA,_,w,a,rfl,_,t.oA,s1,Uc,_,CJ underlying59 underlying5 underlying9 hL2,T.mi Sm,id,?_⟩
 rintro w7 rfl
 have hx:aj (·=g.block) N (N.setCell g<|vs ⟨((bs.drop<|r.at_+k).take n).toArray⟩):=aj.setCell _ _
 have D:=t.ext hx (fun b H e=>Uc) fun e=>Om
 refine⟨_,hx.cell w fun e=>b12 e,a,rfl,_,D.oA,a,rfl,D.box.im (i:=1) Sm,id,?_⟩
 rintro w8 rfl
 rw[hn1,hn2,u]
 have P:=D.xv ((r.at_+k+n:Nat):Int)
 rw[E]at P
 exact .inl ⟨rfl,(AA T).ext qP fun e=>Om,P,((((aj.pure<|K.trans q).trans I).mh V).ft hx fun i hi e=>Om).trans qP⟩
 exact .inr ⟨_,rfl,.inr<|v x um d (by simp[qF,E,M]) A l⟩
 rintro e d (⟨rfl,h⟩|⟨ch,rfl,h⟩)
 grind
 rcases h with⟨h,_⟩|⟨x,h1,h⟩
 cases h
 cases h1;exact .inr ⟨x,rfl,h⟩
 grind
 refine(G2 a _ r.gd w2 h2.sF Om).mono ?_
 rintro e f ⟨rfl,q⟩
 have u:qF bs c r=([],r):=by simp[qF,E]
 refine⟨rfl,W f ?_⟩
 rw[u]
 exact⟨B2.pure q,h2.pure q,aj.pure<|K.trans q⟩
def SK{w e sz s rs}(h:c9 w e sz s rs):s.ay<=s.cap:=by
 rcases h.bf with⟨rfl,_⟩|⟨g,ga,_,_,a,_⟩;exact Nat.le_refl _;rw[h.ay];exact a
def jav{S}(s bs w0)(hs:gr S w0 1 s (gO bs))(h:s.a=bo->s=Sl.nil)(g:bs.length<=100000000000):
  cl 182 #[s.v] w0<|XD fun x w'=>∃a s',x=ab a/\jv s'.bg w' a s' bs ⟨0,0,0⟩/\aq w0 w'/\w0.heap.size<=a.block/\(∀b,s'.bg b->w0.heap.size<=b/\b<w'.heap.size):=by
 refine jbw _ w0 _ ?_
 refine(Py s bs w0 hs h g).mono ?_
 rintro _ j ⟨r1,rfl,c⟩
 refine⟨r1,rfl,fun i k n2=>⟨i,r1,rfl,?_,c.pure.trans<|aj.bu n2,by rw[n2.gp];exact c.pure.size,fun b d=>⟨c.bf b d,?_⟩⟩⟩
 have f:∀b,r1.bg b->b<j.heap.size:=fun b d=>c.fg.lt d
 exact⟨az.j0 n2,(c.fg.pure<|aj.bu n2).gS,fun b d e=>Oi (f b d) n2.gp,g,SK c.fg⟩
 exact(c.fg.pure<|aj.bu n2).lt d
def U0{S}(a s bs r w0)(h:jv S w0 a s bs r)(c:r.at_<=bs.length):
  cl 183 #[vp<|ab a] w0<|XB fun x w'=>x=((bs.length-r.at_:Nat):Int)/\aq w0 w':=by
 refine jbK (ab a) w0 _ ?_
 refine⟨fun d=>Uc,fun _=>⟨a,rfl,fun e hs=>?_⟩⟩
 have h1:=h.pure hs.first
 have b:s.ay=bs.length:=by rw[h.gS.ay,vW]
 refine⟨s,h1.box.dj,a,rfl,_,h1.oA,?_,hs.first⟩
 rw[b,IntWalk.i64_in _<|Oh h.rj];omega
def jcK{S}(a s bs r w0)(h:jv S w0 a s bs r):
  cl 184 #[vp<|ab a] w0<|XB fun x w'=>x=(r.at_:Int)/\w'=w0:=by
 refine Vj (ab a) w0 _ ?_
 exact⟨fun b=>Uc,fun _=>⟨a,rfl,_,h.oA,rfl,rfl⟩⟩
def Zj{S}(a s bs r w0)(h:jv S w0 a s bs r):
  cl 273 #[vp<|ab a] w0<|XK fun x y w'=>x=(r.gd:Int)/\y=(r.spot:Int)/\aq w0 w':=by
 refine Tz (ab a) w0 _ ?_
 refine⟨fun b=>Uc,fun _=>⟨a,rfl,fun c hs=>?_⟩⟩
 have h1:=h.pure hs.first
 exact⟨_,h1.sF,a,rfl,_,h1.box.cell (i:=3) rfl,rfl,rfl,hs.first⟩
def jd.after{w w1 w2 e sz rs s}(E:aq w w1)(h:jd w1 e sz rs s w2):jd w e sz rs s w2:=
 ⟨h.fg,fun b a=>Nat.le_trans E.size<|h.bf b a,E.trans h.pure⟩
section
variable {S:NP} (s:Sl) (bs:List UInt8) (k f t x a b:Int) (y:ByteArray) (m:Option Nat) (w0:af) (hs:gr S w0 1 s (gO bs)) (hz:s.a=bo->s=Sl.nil) (hn:bs.length<=10000000000)
include hs hz hn
def zDX(n:Nat)(g:f=n)(i:n<9223372036854775808):
  cl 249 #[s.v,.agg #[vi k,vi f,vi t,vu x,vs y,vi a,vi b],.map m] w0<|XA fun r w'=>jd w0 5 1 (gO<|bs++vE n) r w':=by
 subst g
 refine jdb s k n t x y a b m w0 _ ?_
 intro h e c
 rw[vX Om]
 refine(AU s bs n e (hs.pure c.first) hz hn Om).mono ?_
 rintro _ j ⟨r,rfl,d⟩
 exact⟨r,rfl,d.ff,d.after c.first⟩
def zLP(n:Nat)(ht:t=n)(h:n<9223372036854775808):
  cl 253 #[s.v,.agg #[vi k,vi f,vi t,vu x,vs y,vi a,vi b],.map m] w0<|XA fun r w'=>jd w0 5 1 (gO<|bs++vE n) r w':=by
 subst ht
 refine Ug s k f n x y a b m w0 _ ?_
 intro g e c
 rw[vX Om]
 refine(AU s bs n e (hs.pure c.first) hz hn Om).mono ?_
 rintro _ i ⟨r,rfl,d⟩
 exact⟨r,rfl,d.ff,d.after c.first⟩
def zDW(n:Nat)(hx:x=n)(h:n<18446744073709551616):
  cl 255 #[s.v,.agg #[vi k,vi f,vi t,vu x,vs y,vi a,vi b],.map m] w0<|XA fun r w'=>jd w0 5 1 (gO<|bs++vE n) r w':=by
 subst hx
 refine Yb s k f t n y a b m w0 _ ?_
 intro g e c
 refine(AU s bs n e (hs.pure c.first) hz hn Om).mono ?_
 rintro _ i ⟨r,rfl,d⟩
 exact⟨r,rfl,d.ff,d.after c.first⟩
def WM(e:y.size<=10000000000):
  cl 257 #[s.v,.agg #[vi k,vi f,vi t,vu x,vs y,vi a,vi b],.map m] w0<|XA fun r w'=>jd w0 5 1 (gO<|bs++vO y) r w':=by
 refine jad s k f t x y a b m w0 _ ?_
 intro h g c
 refine(Vx s bs y g (hs.pure c.first) hz hn e).mono ?_
 rintro _ i ⟨r,rfl,d⟩
 exact⟨r,rfl,d.ff,d.after c.first⟩
def ZH(d:Nat)(M:List (Int×Int))(n:Nat)(h:jm (fun i:Int=>vi i) w0 d M)(g:SE.iv M a=ab (n:Int))(o:n<9223372036854775808):
  cl 261 #[s.v,.agg #[vi k,vi f,vi t,vu x,vs y,vi a,vi b],.map<|ab d] w0<|XA fun r w'=>jd w0 5 1 (gO<|bs++vE n) r w':=by
 refine Xp s k f t x y a b (ab d) w0 _ ?_
 intro m l c
 rcases(h.pure c.first).get (P:=prog) (T:=231) underlying231 underlying73 (zeroValue3 _) a ak with⟨h1,_⟩|⟨v,h1,j⟩
 .rw[g]at h1;cases h1
 rw[g]at h1;cases h1
 refine⟨_,j,?_⟩
 rw[vX Om]
 refine(AU s bs n l (hs.pure c.first) hz hn Om).mono ?_
 rintro _ p ⟨r,rfl,e⟩
 exact⟨r,rfl,e.ff,e.after c.first⟩
def jcU(d:Nat)(M:List (Int×Int))(n:Nat)(h:jm (fun i:Int=>vi i) w0 d M)(g:SE.iv M b=ab (n:Int))(o:n<9223372036854775808):
  cl 263 #[s.v,.agg #[vi k,vi f,vi t,vu x,vs y,vi a,vi b],.map<|ab d] w0<|XA fun r w'=>jd w0 5 1 (gO<|bs++vE n) r w':=by
 refine jcQ s k f t x y a b (ab d) w0 _ ?_
 intro m l c
 rcases(h.pure c.first).get (P:=prog) (T:=231) underlying231 underlying73 (zeroValue3 _) b ak with⟨h1,_⟩|⟨v,h1,j⟩
 .rw[g]at h1;cases h1
 rw[g]at h1;cases h1
 refine⟨_,j,?_⟩
 rw[vX Om]
 refine(AU s bs n l (hs.pure c.first) hz hn Om).mono ?_
 rintro _ p ⟨r,rfl,e⟩
 exact⟨r,rfl,e.ff,e.after c.first⟩
end
section
variable {S:NP} (a q:ao) (s:Sl) (bs:List UInt8) (r:Rd) (cells:List bk) (w0:af) (h:jv S w0 a s bs r) (hat:r.at_<=bs.length) (hS:∀b,S b->b<w0.heap.size) (hq:az w0 q cells 314) (hl:cells.length=12) (haq:a.block≠q.block) (hSq:∀b,S b->b≠q.block)
include h hat hS hq hl haq hSq
def ZG:cl 251 #[vp<|ab a,vp<|ab q] w0 (XG fun w'=>jv S w' a s bs (vS bs r).2/\az w' q (cells.set 7<|vu ((vS bs r).1:Int)) 314/\aj (fun b=>b=a.block\/b=q.block) w0 w'):=by
 refine jay (ab a) (ab q) w0 (fun w'=>jv S w' a s bs (vS bs r).2/\az w' q (cells.set 7<|vu ((vS bs r).1:Int)) 314/\aj (fun b=>b=a.block\/b=q.block) w0 w') ?_;refine(BL a s bs r w0 h hat hS).mono ?_;rintro e f ⟨x,rfl,rfl,g,d⟩;have c:=hq.ext d fun e=>haq e.symm;refine⟨_,rfl,q,rfl,c.im (i:=7) Om,?_⟩;rintro k rfl;have hx:aj (·=q.block) f (f.setCell (q.add 7)<|vu ((vS bs r).1:Int)):=qP;exact⟨g.ext hx (fun b j e=>hSq b j e) haq,c.set 7 _,(d.mono fun _ _ e=>.inl e).trans<|hx.mono fun _ _ e=>.inr e⟩
def TR:cl 254 #[vp<|ab a,vp<|ab q] w0 (XG fun w'=>jv S w' a s bs (vS bs r).2/\az w' q (cells.set 8<|vu ((vS bs r).1:Int)) 314/\aj (fun b=>b=a.block\/b=q.block) w0 w'):=by
 refine ZT (ab a) (ab q) w0 (fun w'=>jv S w' a s bs (vS bs r).2/\az w' q (cells.set 8<|vu ((vS bs r).1:Int)) 314/\aj (fun b=>b=a.block\/b=q.block) w0 w') ?_;refine(BL a s bs r w0 h hat hS).mono ?_;rintro e f ⟨x,rfl,rfl,g,d⟩;have c:=hq.ext d fun e=>haq e.symm;refine⟨_,rfl,q,rfl,c.im (i:=8) Om,?_⟩;rintro k rfl;have hx:aj (·=q.block) f (f.setCell (q.add 8)<|vu ((vS bs r).1:Int)):=qP;exact⟨g.ext hx (fun b j e=>hSq b j e) haq,c.set 8 _,(d.mono fun _ _ e=>.inl e).trans<|hx.mono fun _ _ e=>.inr e⟩
def Zi:cl 256 #[vp<|ab a,vp<|ab q] w0 (XG fun w'=>jv S w' a s bs (vS bs r).2/\az w' q (cells.set 3<|vu ((vS bs r).1:Int)) 314/\aj (fun b=>b=a.block\/b=q.block) w0 w'):=by
 refine ZR (ab a) (ab q) w0 (fun w'=>jv S w' a s bs (vS bs r).2/\az w' q (cells.set 3<|vu ((vS bs r).1:Int)) 314/\aj (fun b=>b=a.block\/b=q.block) w0 w') ?_;refine(BL a s bs r w0 h hat hS).mono ?_;rintro e f ⟨x,rfl,rfl,g,d⟩;have c:=hq.ext d fun e=>haq e.symm;refine⟨_,rfl,q,rfl,c.im (i:=3) Om,?_⟩;rintro k rfl;have hx:aj (·=q.block) f (f.setCell (q.add 3)<|vu ((vS bs r).1:Int)):=qP;exact⟨g.ext hx (fun b j e=>hSq b j e) haq,c.set 3 _,(d.mono fun _ _ e=>.inl e).trans<|hx.mono fun _ _ e=>.inr e⟩
def Vz:cl 259 #[vp<|ab a,vp<|ab q] w0 (XG fun w'=>jv S w' a s bs (qF bs 64 r).2/\az w' q (cells.set 4<|vs ⟨(qF bs 64 r).1.toArray⟩) 314/\aj (fun b=>b=a.block\/b=q.block) w0 w'):=by
 refine WG (ab a) (ab q) w0 (fun w'=>jv S w' a s bs (qF bs 64 r).2/\az w' q (cells.set 4<|vs ⟨(qF bs 64 r).1.toArray⟩) 314/\aj (fun b=>b=a.block\/b=q.block) w0 w') ?_;refine(jdc a s bs 64 r w0 h hat hS Om).mono ?_;rintro e f ⟨x,rfl,rfl,g,d⟩;have c:=hq.ext d fun e=>haq e.symm;refine⟨_,rfl,q,rfl,c.im (i:=4) Om,?_⟩;rintro k rfl;have hx:aj (·=q.block) f (f.setCell (q.add 4)<|vs ⟨(qF bs 64 r).1.toArray⟩):=qP;exact⟨g.ext hx (fun b j e=>hSq b j e) haq,c.set 4 _,(d.mono fun _ _ e=>.inl e).trans<|hx.mono fun _ _ e=>.inr e⟩
def jbu:cl 262 #[vp<|ab a,vp<|ab q] w0 (XG fun w'=>jv S w' a s bs (vS bs r).2/\az w' q ((cells.set 9<|vu ((vS bs r).1:Int)).set 11<|vi 1) 314/\aj (fun b=>b=a.block\/b=q.block) w0 w'):=by
 refine Ux (ab a) (ab q) w0 (fun w'=>jv S w' a s bs (vS bs r).2/\az w' q ((cells.set 9<|vu ((vS bs r).1:Int)).set 11<|vi 1) 314/\aj (fun b=>b=a.block\/b=q.block) w0 w') ?_;refine(BL a s bs r w0 h hat hS).mono ?_;rintro e g ⟨x,rfl,rfl,j,f⟩;have c:=hq.ext f fun e=>haq e.symm;refine⟨_,rfl,q,rfl,c.im (i:=9) Om,?_⟩;rintro m rfl;have hx:aj (·=q.block) g ((g.setCell (q.add 9)<|vu ((vS bs r).1:Int)).setCell (q.add 11)<|vi 1):=qP.trans qP;have d:=c.set 9<|vu ((vS bs r).1:Int);refine⟨q,rfl,d.im (i:=11) Gd,?_⟩;rintro l rfl;exact⟨j.ext hx (fun b k e=>hSq b k e) haq,d.set 11 _,(f.mono fun _ _ e=>.inl e).trans<|hx.mono fun _ _ e=>.inr e⟩
def jct:cl 264 #[vp<|ab a,vp<|ab q] w0 (XG fun w'=>jv S w' a s bs (vS bs r).2/\az w' q ((cells.set 10<|vu ((vS bs r).1:Int)).set 11<|vi 2) 314/\aj (fun b=>b=a.block\/b=q.block) w0 w'):=by
 refine jcY (ab a) (ab q) w0 (fun w'=>jv S w' a s bs (vS bs r).2/\az w' q ((cells.set 10<|vu ((vS bs r).1:Int)).set 11<|vi 2) 314/\aj (fun b=>b=a.block\/b=q.block) w0 w') ?_;refine(BL a s bs r w0 h hat hS).mono ?_;rintro e g ⟨x,rfl,rfl,j,f⟩;have c:=hq.ext f fun e=>haq e.symm;refine⟨_,rfl,q,rfl,c.im (i:=10) Om,?_⟩;rintro m rfl;have hx:aj (·=q.block) g ((g.setCell (q.add 10)<|vu ((vS bs r).1:Int)).setCell (q.add 11)<|vi 2):=qP.trans qP;have d:=c.set 10<|vu ((vS bs r).1:Int);refine⟨q,rfl,d.im (i:=11) Gd,?_⟩;rintro l rfl;exact⟨j.ext hx (fun b k e=>hSq b k e) haq,d.set 11 _,(f.mono fun _ _ e=>.inl e).trans<|hx.mono fun _ _ e=>.inr e⟩
end
def xX(k):(k=1\/k=2\/k=3\/k=4\/k=5\/k=6\/k=7\/k=8\/k=9)\/(fl k=wy/\qe k=ak/\∀m,1<=m->m<=9->(k==m)=ak):=by
 by_cases h:k=1\/k=2\/k=3\/k=4\/k=5\/k=6\/k=7\/k=8\/k=9
 .exact .inl h
 .right;refine⟨?_,?_,fun m h1 h2=>?_⟩
  .unfold fl;repeat rw[aw Om]
  .unfold qe;apply Bool.eq_false_iff.2;intro h3;simp at h3;omega
  .grind
def qU(k):gy k=(fl k).fw:=by
 rcases xX k with h|⟨h,_,a⟩;rcases h with rfl|rfl|rfl|rfl|rfl|rfl|rfl|rfl|rfl<;>decide;rw[h];unfold gy;simp[a,wy]
def OI(k):rF k=(fl k).cj:=by
 rcases xX k with h|⟨h,_,a⟩;rcases h with rfl|rfl|rfl|rfl|rfl|rfl|rfl|rfl|rfl<;>decide;rw[h];unfold rF;simp[a,wy]
def Nw(k):((k==8) ||(k==9))=(fl k).to:=by
 rcases xX k with h|⟨h,_,a⟩;rcases h with rfl|rfl|rfl|rfl|rfl|rfl|rfl|rfl|rfl<;>decide;rw[h];simp[a,wy]
def zBL(k):(k==2)=(fl k).num:=by
 rcases xX k with h|⟨h,_,a⟩;rcases h with rfl|rfl|rfl|rfl|rfl|rfl|rfl|rfl|rfl<;>decide;rw[h];simp[a,wy]
def Y5(k):(k==3)=(fl k).cf:=by
 rcases xX k with h|⟨h,_,a⟩;rcases h with rfl|rfl|rfl|rfl|rfl|rfl|rfl|rfl|rfl<;>decide;rw[h];simp[a,wy]
def WT(k):(!(decide (k<1) ||decide (k>9)))=qe k:=by
 unfold qe;by_cases h1:k<1<;>by_cases h2:k>9<;>simp[h1,h2]<;>omega
def U4(q):decide ((if q=ai then(53:Int)else 0)=0)=!q:=Uc
def sB(n:gP):Int:=
 if zM n≠0 then 53 else if(decide ((fl n.ba).fw<1)&&n.a !=0) ||(decide ((fl n.ba).fw<2)&&n.b !=0)then 53 else zO (fl n.ba) n
def Xj(n):Dm n.ba n.cj n.to n.num n.cf n.a n.b=(decide (zM n=0)&&!((decide ((fl n.ba).fw<1)&&n.a !=0) ||(decide ((fl n.ba).fw<2)&&n.b !=0))):=by
 have⟨k,f,t,u,x,a,b⟩:=n;unfold Dm zM;simp only[qU,OI,Nw k,zBL k,Y5 k,WT];have r:=qW k;generalize fl k=s at *;have⟨s1,p,e,m,c⟩:=s;generalize qe k=i;have l:decide (c>=1)=!decide (c<1):=Uc;have j:(c==2)=!decide (c<2):=Gd;simp only[l,j,bne,U4];generalize (f==0)=h;generalize (t==0)=g;generalize (u==0)=d;generalize decide (x=⟨#[]⟩)=o;generalize (a==0)=w;generalize (b==0)=v;generalize decide (c<1)=q;generalize decide (c<2)=y;cases i<;>cases s1<;>cases p<;>cases e<;>cases m<;>cases h<;>cases g<;>cases d<;>cases o<;>simp
def Oe(n):wx n.ba n.cj n.to n.num n.cf n.a n.b=sB n:=by
 unfold wx sB;rw[Xj,OI,Nw];by_cases h1:zM n=0;by_cases h2:((decide ((fl n.ba).fw<1)&&n.a !=0) ||(decide ((fl n.ba).fw<2)&&n.b !=0))=ai;rw[h2];simp[h1];have h2:((decide ((fl n.ba).fw<1)&&n.a !=0) ||(decide ((fl n.ba).fw<2)&&n.b !=0))=ak:=by simpa using h2
 rw[h2];simp only[h1,ne_eq,not_true_eq_false,if_false,Bool.false_eq_true,decide_true,Bool.not_false,Bool.and_true,Bool.not_true,cond_false];unfold zO sr;have f:(decide (n.cj>=0)&&decide (n.cj<16))=(decide (0<=n.cj)&&decide (n.cj<16)):=rfl;have e:(decide (n.to>=0)&&decide (n.to<16))=(decide (0<=n.to)&&decide (n.to<16)):=rfl;have g:(n.cj==n.to)=(n.to==n.cj):=Uc;rw[f,e,g];have d:decide (((n.cf.size:Int))>64)=decide (n.cf.size>64):=decide_eq_decide.2 Om;rw[d];generalize ((fl n.ba).cj&&!(decide (0<=n.cj)&&decide (n.cj<16)) ||(fl n.ba).to&&(!(decide (0<=n.to)&&decide (n.to<16)) ||n.to==n.cj))=c;cases c;grind;rfl;simp[h1]
def Lk:nY prog 41 119 7 64:=by
 refine⟨underlying41,⟨t119,_,Kf,(by kernel_rfl:t119.zero=ab (.agg #[vi 0,vi 0,vi 0,vu 0,vs ⟨#[]⟩,vi 0,vi 0])),Kf,Kf,rfl⟩,Om⟩
def Av:nY prog 42 3 1 8:=by
 refine⟨underlying42,⟨t3,_,Kf,(by kernel_rfl:t3.zero=ab (vi 0)),Kf,Kf,rfl⟩,Om⟩
def D5(e:vd):List bk:=tM e.dr
def Jm(e:vd):List bk:=[vi e.size]
def Ig(e:vd):List bk:=[vi e.depth]
structure JH(w:af)(p:ao)(L:bw)(s1 c a:Sl):Prop where
 box:az w p [s1.v,c.v,a.v] 44
 r1:c9 w 119 7 s1 (L.map D5)
 r2:c9 w 3 1 c (L.map Jm)
 r3:c9 w 3 1 a (L.map Ig)
 n1:¬s1.bg p.block
 n2:¬c.bg p.block
 n3:¬a.bg p.block
 DG:∀b,s1.bg b->¬c.bg b
 DT:∀b,s1.bg b->¬a.bg b
 Gk:∀b,c.bg b->¬a.bg b
def vJ(w:af)(p:ao)(L:bw)(F:NP):Prop:=∃s1 c a,JH w p L s1 c a/\∀b,F b↔(b=p.block\/s1.bg b\/c.bg b\/a.bg b)
def vJ.ext{G w w' p L F}(h:vJ w p L F)(a:aj G w w')(d:∀b,F b->¬G b):vJ w' p L F:=by
 have⟨s1,g,e,h,c⟩:=h;exact⟨s1,g,e,⟨h.box.ext a<|d _<|(c _).2<|.inl rfl,h.r1.ext a fun b f=>d _<|(c _).2<|.inr<|.inl f,h.r2.ext a Gd,h.r3.ext a Gd,h.n1,h.n2,h.n3,h.DG,h.DT,h.Gk⟩,c⟩
def vJ.pure{w w' p L F}(h:vJ w p L F)(a:aq w w'):vJ w' p L F:=h.ext a fun _ _ h=>h
def vJ.lt{w p L F}(h:vJ w p L F){b}(a:F b):b<w.heap.size:=by
 have⟨s1,e,d,h,c⟩:=h;rcases(c b).1 a with rfl|a|a|a;exact h.box.lt;exact h.r1.lt a;exact h.r2.lt a;exact h.r3.lt a
def Jw(w0):cl 44 #[] w0 (XD fun r w'=>∃p F,r=ab p/\vJ w' p [] F/\aq w0 w'/\∀b,F b->w0.heap.size<=b):=by
 refine VF w0 (fun r w'=>∃p F,r=ab p/\vJ w' p [] F/\aq w0 w'/\∀b,F b->w0.heap.size<=b) ?_;unfold Ln;have c:∀b,¬Sl.nil.bg b:=fun b d=>by have⟨a,h,_⟩:=d;cases h
 intro p e h1;have b1:=az.fi h1;have f:aq w0 e:=aj.bu h1
 first
  |exact⟨p,(·=p.block),rfl,⟨Sl.nil,Sl.nil,Sl.nil,⟨b1,c9.nil _ _ _,c9.nil _ _ _,c9.nil _ _ _,c _,c _,c _,fun b h=>(c b h).elim,fun b h=>(c b h).elim,fun b h=>(c b h).elim⟩,fun b=>Uc⟩,f,fun b d=>by subst d;exact fp.bf (aj.refl w0) h1⟩
  |skip
def yJ(p t w0){L F}(b:vJ w0 p L F):cl 112 #[vp<|ab p,vi t] w0 (XC fun r w'=>r=bj L t/\w'=w0):=by
 refine jbd _ _ w0 (fun r w'=>r=bj L t/\w'=w0) ?_;have⟨s1,f,d,h,e⟩:=b;have c:s1.ay=L.length:=by rw[h.r1.ay];simp
 refine⟨fun a=>⟨p,rfl,s1,h.box.dj,?_,rfl⟩,fun a=>⟨?_,rfl⟩⟩;have:=ij a;rw[c];simp[bj,this];have:=il a;simp[bj];omega
def JH.ju{w p L s1 s2 s3}(h:JH w p L s1 s2 s3){t}(ht:bj L t=ai)(c:Ok L):∃e,get L t=ab e /\
  (∃a,At s1 (q6.wrap<|t-1) 7 a/\Row w a (D5 e))/\(∃a,At s2 (q6.wrap<|t-1) 1 a/\Row w a (Jm e))/\(∃a,At s3 (q6.wrap<|t-1) 1 a/\Row w a (Ig e)):=by
 have⟨e,l,_,hi,b⟩:=Cn ht
 have i:=zG.1 ht
 have m:=c.jl
 have k:q6.wrap (t-1)=((t-1).toNat:Int):=by rw[i64 Om Om];omega
 have⟨a1,h1,g⟩:=h.r1.mv (j:=(t-1).toNat) hi
 have⟨a2,h2,d⟩:=h.r2.mv (j:=(t-1).toNat) hi
 have⟨a3,h3,f⟩:=h.r3.mv (j:=(t-1).toNat) hi
 rw[b]at g d f
 rw[k]
 exact⟨e,l,⟨a1,h1,g⟩,⟨a2,h2,d⟩,⟨a3,h3,f⟩⟩
def I1(p t w0){L F}(d:vJ w0 p L F)(b:Ok L):cl 113 #[vp<|ab p,vi t] w0 (XB fun r w'=>r=sizeOf L t/\w'=w0):=by
 refine jaS _ _ w0 (fun r w'=>r=sizeOf L t/\w'=w0) ?_;refine(yJ p t w0 d).mono ?_;rintro _ _ ⟨_,rfl,rfl,rfl⟩;refine⟨_,rfl,fun h=>⟨?_,rfl⟩,fun h=>?_⟩;have h:bj L t=ak:=by simpa using h
 simp[sizeOf,yD h];have h:bj L t=ai:=by simpa using h
 have⟨s1,i,j,hS,k⟩:=d;have⟨e,g,_,⟨a,c,f⟩,_⟩:=hS.ju h b;exact⟨p,rfl,i,hS.box.cell rfl,a,c,_,y9 f,by simp[sizeOf,g],rfl⟩
def Pt(p t w0){L F}(d:vJ w0 p L F)(b:Ok L):cl 121 #[vp<|ab p,vi t] w0 (XB fun r w'=>r=gN L t/\w'=w0):=by
 refine jcJ _ _ w0 (fun r w'=>r=gN L t/\w'=w0) ?_;refine(yJ p t w0 d).mono ?_;rintro _ _ ⟨_,rfl,rfl,rfl⟩;refine⟨_,rfl,fun h=>⟨?_,rfl⟩,fun h=>?_⟩;have h:bj L t=ak:=by simpa using h
 simp[gN,yD h];have h:bj L t=ai:=by simpa using h
 have⟨s1,k,f,hS,j⟩:=d;have⟨e,i,_,_,⟨a,c,g⟩⟩:=hS.ju h b;exact⟨p,rfl,f,hS.box.cell rfl,a,c,_,y9 g,by simp[gN,i],rfl⟩
def tH(p t w0){L F}(o:vJ w0 p L F)(i:Ok L):cl 64 #[vp<|ab p,vi t] w0
  (XP fun k f n u x a b r w'=>((⟨k,f,n,u,x,a,b⟩:gP)=ar L t/\r=bj L t)/\aq w0 w'):=by
 refine jco _ _ w0 _ ?_
 intro w q c
 have d:=o.pure c.first
 refine(yJ p t q d).mono ?_
 rintro _ _ ⟨_,rfl,rfl,rfl⟩
 refine⟨_,rfl,av.refl _,fun h=>?_,fun h=>?_⟩
 .intro B j
  have h:bj L t=ak:=Uc
  exact⟨⟨by simp[ar,yD h,uZ],h.symm⟩,c.first.bh j⟩
 .have h:bj L t=ai:=by simpa using h
  have⟨s1,z,y,hS,A⟩:=d
  have⟨e,s,⟨a,l,m⟩,_,_⟩:=hS.ju h i
  refine⟨p,rfl,s1,hS.box.dj,a,l,_,_,_,_,_,_,_,m,?_⟩
  intro v g
  exact⟨⟨by simp[ar,s],h.symm⟩,c.first.bh g⟩
def Xn(m n:gP):((m.ba==n.ba)&&((m.cj==n.cj)&&((m.to==n.to)&&((m.num==n.num)&&((decide (m.cf=n.cf))&&((m.a==n.a)&&(m.b==n.b)))))))=decide (m=n):=by
 have⟨k,f,t,u,x,a,b⟩:=m;have⟨k',c,d,e,h,g,i⟩:=n;rw[Bool.eq_iff_iff];simp
def HI(p n w0){L F}(M:vJ w0 p L F)(w:Ok L):cl 122 #[vp<|ab p,px n] w0
  (XE fun r ok w'=>(match find L n with|some i=>r=(i:Int)+1/\ok=ai|none=>r=0/\ok=ak)/\aq w0 w'):=by
 have⟨k,f,t,u,x,a,b⟩:=n
 generalize A:(⟨k,f,t,u,x,a,b⟩:gP)=n
 have C:px n=.agg #[vi k,vi f,vi t,vu u,vs x,vi a,vi b]:=by rw[<-A];rfl
 rw[C]
 suffices key:∀K:Int->Bool->WP,(∀r ok w',((match find L n with|some i=>r=(i:Int)+1/\ok=ai|none=>r=0/\ok=ak)/\aq w0 w')->K r ok w')->P6 (ab p) k f t u x a b w0 K from
  jdl _ _ _ _ _ _ _ _ w0 _<|key _ fun _ _ _ h=>h
 intro K J
 intro W T I
 refine⟨fun i H w'=>∃j:Nat,i=j/\j<=L.length/\aq w0 w'/\∀q,q<j->∀e,L[q]?=ab e->e.dr≠n,fun i _=>((L.length:Int)-i).toNat,⟨0,rfl,Nat.zero_le _,I.first,fun q l=>absurd l Om⟩,?_⟩
 rintro _ Hl wl Y ⟨j,rfl,R,D,m⟩
 unfold Lb
 have⟨s1,V,S,hS,Z⟩:=M.pure D
 have X:=w.jl
 have d:s1.ay=L.length:=by rw[hS.r1.ay];simp
 refine⟨p,rfl,s1,hS.box.dj,fun h=>?_,fun h=>?_⟩
 .have c:=vA d h
  refine⟨p,rfl,?_⟩
  intro U z
  have y:=D.bh z
  have⟨v,Q,P,o,_⟩:=M.pure y
  have⟨O,G,N⟩:=o.r1.mv c
  refine⟨v,o.box.dj,O,G,_,_,_,_,_,_,_,N,?_⟩
  have hB:=Xn L[j].dr n
  rw[<-A]at hB
  simp only at hB
  dsimp only;rw[hB,A]
  refine⟨fun h=>?_,fun h=>?_⟩
  .have h:=ij h
   rw[zI c Om]
   refine J _ _ _ ⟨?_,y⟩
   have g:find L n=ab j:=by
    unfold find;rw[findIdx?_eq_some_iff_getElem];exact⟨c,Uc,fun q l=>by simpa using m q l _ (getElem?_eq_getElem Om)⟩
   rw[g];exact⟨Om,rfl⟩
  .have h:=il h
   rw[zI c Om]
   refine⟨⟨j+1,rfl,c,y,fun q l e s=>?_⟩,vT c⟩
   by_cases E:q=j
   .subst E;rw[getElem?_eq_getElem c]at s;cases s;exact h
   .grind
 .have B:=vH d R h
  subst B
  refine J _ _ _ ⟨?_,D⟩
  have g:=zm (fun e s=>by
   obtain⟨q,l,rfl⟩:=mem_iff_getElem.1 s;exact m q l _<|getElem?_eq_getElem l)
  rw[g];exact⟨rfl,rfl⟩
def Jp{P t ty e sz bytes}(T:nY P t e sz bytes){w p c Tp}(hB:az w p c Tp){s rs}(l:c9 w e sz s rs)(i:¬ s.bg p.block){a r}(k:Row w a r)(o:r.length=sz)(h1:r.all vC=ai)(m:(rs.length+1)*bytes<=140737488355328)(n:rs.length+1<=maxLen):
  ∃s' w',(cm #[t,t] ty #[s.v,(Sl.mk (ab a) 1 1).v]).run P w=.ok s'.v w'/\c9 w' e sz s' (rs++[r])/\az w' p c Tp/\¬s'.bg p.block/\aj s.bg w w'/\(∀b,s'.bg b->s.bg b\/w.heap.size<=b):=by
 have⟨s',w',g,f,j,d⟩:=l.append T (ty:=ty) (c:=1) k o h1 m n
 exact⟨s',w',g,f,hB.ext j i,fun h=>(d _ h).elim i fun h=>Oh hB.lt,j,d⟩
def Pn(n):zM n=53\/zM n=0:=by
 unfold zM;simp only;split;exact .inl rfl;exact .inr rfl
def vU(p n w0){L F}(Q:vJ w0 p L F)(j:Ok L):cl 60 #[vp<|ab p,px n] w0
  (XK fun r1 r2 w'=>(r1,r2)=((bz L n).1,(bz L n).2.1)/\∃F',vJ w' p (bz L n).2.2 F'/\aj F w0 w'/\∀b,F' b->F b\/w0.heap.size<=b):=by
 have⟨k,f,t,u,x,a,b⟩:=n
 generalize hn:(⟨k,f,t,u,x,a,b⟩:gP)=n
 have hnk:px n=.agg #[vi k,vi f,vi t,vu u,vs x,vi a,vi b]:=by rw[<-hn];rfl
 rw[hnk]
 suffices key:∀K,(∀r1 r2 w',((r1,r2)=((bz L n).1,(bz L n).2.1)/\∃F',vJ w' p (bz L n).2.2 F'/\aj F w0 w'/\∀b,F' b->F b\/w0.heap.size<=b)->K r1 r2 w')->HQ (ab p) k f t u x a b w0 K from
  ZW _ _ _ _ _ _ _ _ w0 _<|key _ fun _ _ _ h=>h
 intro K hK
 have R:=Oe n
 have hkd:=qU k
 rw[<-hn]at R
 simp only at R
 rw[hn]at R
 have hna:n.a=a:=Uc
 have hnb:n.b=b:=Uc
 have I:n.ba=k:=Uc
 have hk:=qW k
 have jEE:∀(r1 r2:Int)w',aq w0 w'->bz L n=(r1,r2,L)->K r1 r2 w':=fun r1 r2 w' E h=>hK _ _ _ ⟨by rw[h],F,by rw[h];exact Q.pure E,E.pure,fun b h=>.inl h⟩
 have bad:∀(er:Int)w',er≠0->aq w0 w'->ik L n=(0,0,er)->K 0 er w':=fun er w' h0 E h=>jEE 0 er w' E (by unfold bz;simp[h,h0])
 unfold HQ
 rw[R,hkd]
 have good:sB n=0->ik L n=(if(zB n).any (fun t=>!bj L t)then(0,0,51)else if 1+((zB n).map<|sizeOf L).sum>4096\/(zB n).foldl (fun d t=>max d<|gN L t) 0+1>64 then(0,0,52)else(1+((zB n).map<|sizeOf L).sum,(zB n).foldl (fun d t=>max d<|gN L t) 0+1,0)):=by
  intro h;unfold sB at h;unfold ik;split at h
  .cases h
  .grind
 refine⟨fun h=>?_,fun h=>?_⟩
 .intro H1 w2 hs2
  have h:sB n≠0:=Uc
  refine bad _ _ h hs2.first ?_
  unfold sB at h|-
  unfold ik
  by_cases h1:zM n≠0
  .rw[bt h1,bt h1]
   have:zM n=53:=(Pn n).resolve_right h1
   rw[this]
  .grind
 have h0:sB n=0:=Uc
 have q:=good h0
 have g:((fl k).fw<1->a=0)/\((fl k).fw<2->b=0):=by
  unfold sB at h0;split at h0
  .cases h0
  .grind
 have hz0:bj L 0=ak:=by simp[bj]
 have hs0:sizeOf L 0=0:=by simp[sizeOf,get,hz0]
 have hd0:gN L 0=0:=by simp[gN,get,hz0]
 have hsa:=j.sizeOf a
 have hsb:=j.sizeOf b
 have hda:=j.gN a
 have hdb:=j.gN b
 have hany:(zB n).any (fun t=>!bj L t)=((decide (1<=(fl k).fw)&&!bj L a) ||(decide ((fl k).fw=2)&&!bj L b)):=by
  unfold zB;rw[I,hna,hnb];rcases hk with h|h|h<;>rw[h]<;>simp
 have hsum:((zB n).map<|sizeOf L).sum=sizeOf L a+sizeOf L b:=by
  unfold zB;rw[I,hna,hnb];rcases hk with h|h|h<;>rw[h]<;>simp
  .rw[g.1 Om,g.2 Om,hs0];rfl
  .rw[g.2 Om,hs0];omega
 have hmax:(zB n).foldl (fun d t=>max d<|gN L t) 0=max (gN L a) (gN L b):=by
  unfold zB;rw[I,hna,hnb];rcases hk with h|h|h<;>rw[h]<;>simp
  .rw[g.1 Om,g.2 Om,hd0];omega
  .rw[g.2 Om,hd0];omega
  .omega
 rw[hany,hsum,hmax]at q
 have J1:∀(x1:Bool)H w,au w0 H w H w->aq w0 w->x1=((decide (1<=(fl k).fw)&&!bj L a) ||(decide ((fl k).fw=2)&&!bj L b))->BH (ab p) k f t u x a b x1 w0 H w K:=by
  intro x1 H w hs E hx;rw[<-hx]at q;refine⟨fun h=>bad 51 w Om E Uc,fun h=>?_⟩;rw[h,aw Sm]at q;refine⟨fun _=>True,trivial,?_⟩;rintro _ rfl;have Ed:=E.trans<|aj.drew w;refine(I1 p a w.drew (Q.pure Ed) j).mono ?_;rintro _ _ ⟨_,rfl,rfl,rfl⟩;refine⟨_,rfl,trivial,av.refl _,?_⟩;refine(I1 p b w.drew (Q.pure Ed) j).mono ?_;rintro _ _ ⟨_,rfl,rfl,rfl⟩;refine⟨_,rfl,trivial,av.refl _,fun _=>True,trivial,?_⟩;rintro _ rfl;have W:=Ed.trans<|aj.drew w.drew;refine(Pt p a w.drew.drew (Q.pure W) j).mono ?_;rintro _ _ ⟨_,rfl,rfl,rfl⟩;refine⟨_,rfl,trivial,av.refl _,?_⟩;refine(Pt p b w.drew.drew (Q.pure W) j).mono ?_;rintro _ _ ⟨_,rfl,rfl,rfl⟩;refine⟨_,rfl,trivial,av.refl _,_,fun w' _=>run_max_int2 _ _ _ _ _ _ _,?_⟩;have hmx:(if gN L b>gN L a then gN L b else gN L a)=max (gN L a) (gN L b):=by
   split<;>omega
  generalize hz:(if gN L b>gN L a then gN L b else gN L a)=z at *;have hz64:=Uc;have e1:q6.wrap (q6.wrap (1+sizeOf L a)+sizeOf L b)=1+(sizeOf L a+sizeOf L b):=by
   rw[i64 (n:=1+sizeOf L a) Om Om,i64 Om Om];omega
  have e2:q6.wrap (1+z)=z+1:=by rw[i64 Om Om];omega
  rw[e1,e2];rw[<-hmx]at q;rintro y1 rfl;refine⟨fun h=>?_,fun h=>?_⟩
  .intro H2 w10 y;refine bad 52 w10 Om (W.bh y) ?_;rw[q,bt Uc]
  .intro H2 w10 y;have hck:ik L n=(1+(sizeOf L a+sizeOf L b),z+1,0):=Uc;have E10:=W.bh y;rw[<-hnk];refine(HI p n w10 (Q.pure E10) j).mono ?_;rintro _ w11 ⟨r,ok,rfl,X,E11⟩;refine⟨_,_,rfl,E11.dy,?_⟩;have E11':=E10.trans E11;have hs11:=y.jg E11.dy;cases hf:find L n with
   |some i =>
    rw[hf]at X
    obtain⟨rfl,rfl⟩:=X
    exact Br.t rfl (jEE _ _ _ E11' (by unfold bz;simp[hck,hf]))
   |none =>
    rw[hf]at X
    obtain⟨rfl,rfl⟩:=X
    refine Br.f rfl ?_
    have⟨s1,s2,s3,hS,hF⟩:=Q.pure E11'
    have hlen:s1.ay=L.length:=by rw[hS.r1.ay];simp
    refine⟨p,rfl,s1,hS.box.dj,fun h=>?_,fun h=>?_⟩
    .have h2:65536<=L.length:=by have h:=ij h;omega
     exact jEE _ _ _ E11' (by unfold bz;simp[hck,hf,h2])
    .have h2:¬65536<=L.length:=by have h:=il h;omega
     have hmk:bz L n=((L.length:Int)+1,0,L++[⟨n,1+(sizeOf L a+sizeOf L b),z+1⟩]):=by unfold bz;simp[hck,hf,h2]
     have s:∀b,F b->¬H2 b:=fun b c h2=>Oi (Q.lt c)<|hs11.old b h2
     have S:=(hF _).2<|.inl rfl
     refine⟨fun w'=>w'.cell? p=ab s1.v,hS.box.dj,?_⟩
     rintro _ rfl
     have E12:aq w11 w11.drew:=aj.drew w11
     refine⟨p,rfl,s1,fun w' h'=>h',?_⟩
     intro p3 w13 h13
     have m:=E12.trans<|aj.bu h13
     have B13:=hS.box.pure m
     refine⟨B13.dj,?_⟩
     have⟨B,w14,hr14,R14,B14,U,M,nb1⟩:=Jp (P:=prog) (ty:=41) Lk B13 (hS.r1.pure m) hS.n1 (a:=p3) (r:=tM n) (by rw[<-hn];exact(az.fi h13).row) rfl rfl So (by simp[maxLen];omega)
     refine⟨B,w14,hr14,B14.dj,M.ff fun b c h=>s b ((hF b).2<|.inr<|.inl h) c,p,rfl,B14.mi Sm,s _ S,?_⟩
     rintro w15 O
     have B15:az w15 p [B.v,s2.v,s3.v] 44:=by rw[O];exact B14.nw
     have G:aj (·=p.block) w14 w15:=by rw[O];exact aj.setCell p _
     clear O
     have R15:=R14.ext G fun b c e=>U<|e▸c
     have R2:=((hS.r2.pure m).ext M fun b h2 h1=>hS.DG b h1 h2).ext G fun b c e=>hS.n2<|e▸c
     have R3:=((hS.r3.pure m).ext M fun b h2 h1=>hS.DT b h1 h2).ext G fun b c e=>hS.n3<|e▸c
     have d12':∀b,B.bg b->¬s2.bg b:=fun b c h2=>(nb1 b c).elim (fun h=>hS.DG b h h2) fun h=>Oi (hS.r2.lt h2) m.size
     have Z:∀b,B.bg b->¬s3.bg b:=fun b c h2=>(nb1 b c).elim (fun h=>hS.DT b h h2) fun h=>Oi (hS.r3.lt h2) m.size
     refine⟨p,rfl,s2,B15.cell rfl,?_⟩
     intro p4 w16 h16
     have l:aq w15 w16:=aj.bu h16
     have B16:=B15.pure l
     have⟨T,w17,hr17,R17,B17,np2,J,nb2⟩:=Jp (P:=prog) (ty:=42) Av B16 (R2.pure l) hS.n2 (a:=p4) (r:=[vi<|1+(sizeOf L a+sizeOf L b)]) (az.fi h16).row rfl rfl So (by simp[maxLen];omega)
     refine⟨T,w17,hr17,J.ff Gd,p,rfl,B17.im Sm,by rw[zD];exact s _ S,?_⟩
     rintro w18 C
     have B18:az w18 p [B.v,T.v,s3.v] 44:=by rw[C];exact B17.set 1 _
     have D:aj (·=p.block) w17 w18:=by rw[C];have:=aj.setCell (w:=w17) (p.add 1) T.v;rw[zD]at this;exact this
     clear C
     have Q1:=((R15.pure l).ext J fun b h1 h2=>d12' b h1 h2).ext D fun b c e=>U<|e▸c
     have Q2:=R17.ext D fun b c e=>np2<|e▸c
     have Q3:=((R3.pure l).ext J fun b h3 h2=>hS.Gk b h2 h3).ext D fun b c e=>hS.n3<|e▸c
     have d12'':∀b,B.bg b->¬T.bg b:=fun b c h2=>(nb2 b h2).elim (fun h=>d12' b c h) fun h=>Oh<|(R15.pure l).lt c
     have d23':∀b,T.bg b->¬s3.bg b:=fun b c h2=>(nb2 b c).elim (fun h=>hS.Gk b h h2) fun h=>Oh<|(R3.pure l).lt h2
     refine⟨p,rfl,s3,B18.cell rfl,?_⟩
     intro p5 w19 h19
     have o:aq w18 w19:=aj.bu h19
     have B19:=B18.pure o
     have⟨t3,w20,hr20,R20,B20,np3,V,nb3⟩:=Jp (P:=prog) (ty:=42) Av B19 (Q3.pure o) hS.n3 (a:=p5) (r:=[vi<|z+1]) (az.fi h19).row rfl rfl So (by simp[maxLen];omega)
     refine⟨t3,w20,hr20,V.ff Gd,p,rfl,B20.im Sm,by rw[zD];exact s _ S,?_⟩
     rintro w21 N
     have B21:az w21 p [B.v,T.v,t3.v] 44:=by rw[N];exact B20.set 2 _
     have Y:aj (·=p.block) w20 w21:=by rw[N];have:=aj.setCell (w:=w20) (p.add 2) t3.v;rw[zD]at this;exact this
     clear N
     have d13'':∀b,B.bg b->¬t3.bg b:=fun b c h2=>(nb3 b h2).elim (fun h=>Z b c h) fun h=>Oh<|(Q1.pure o).lt c
     have d23'':∀b,T.bg b->¬t3.bg b:=fun b c h2=>(nb3 b h2).elim (fun h=>d23' b c h) fun h=>Oh<|(Q2.pure o).lt c
     have Z1:=((Q1.pure o).ext V fun b h1 h2=>Z b h1 h2).ext Y fun b c e=>U<|e▸c
     have Z2:=((Q2.pure o).ext V fun b h1 h2=>d23' b h1 h2).ext Y fun b c e=>np2<|e▸c
     have Z3:=R20.ext Y fun b c e=>np3<|e▸c
     have hl1:(B.ay:Int)=L.length+1:=by rw[R14.ay];simp
     refine⟨p,rfl,B,B21.dj,?_⟩
     dsimp only;rw[hl1]
     refine hK _ _ _ ⟨Uc,fun b=>b=p.block\/B.bg b\/T.bg b\/t3.bg b,?_,?_,?_⟩
     .rw[hmk]
      exact⟨B,T,t3,⟨B21,by simpa[D5]using Z1,by simpa[Jm]using Z2,by simpa[Ig]using Z3,U,np2,np3,d12'',d13'',d23''⟩,fun _=>Iff.rfl⟩
     .have a1:=(E11'.trans m).pure.ft M fun i _ h=>(hF i).2<|.inr<|.inl h
      have a2:=a1.ft G fun i _ h=>(hF i).2<|.inl h
      have a3:=(a2.mh l).ft J fun i _ h=>(hF i).2<|.inr<|.inr<|.inl h
      have a4:=a3.ft D fun i _ h=>(hF i).2<|.inl h
      have a5:=(a4.mh o).ft V fun i _ h=>(hF i).2<|.inr<|.inr<|.inr h
      exact a5.ft Y fun i _ h=>(hF i).2<|.inl h
     .have z13:w0.heap.size<=w13.heap.size:=(E11'.trans m).size
      have z16:w0.heap.size<=w16.heap.size:=by have:=M.size;have:=G.size;have:=l.size;omega
      have z19:w0.heap.size<=w19.heap.size:=by have:=J.size;have:=D.size;have:=o.size;omega
      rintro b (rfl|c|c|c)
      .exact .inl S
      .grind
      .grind
      .grind
 have J2:∀(x2:Bool)H w,au w0 H w H w->aq w0 w->x2=(decide (1<=(fl k).fw)&&!bj L a)->Cj (ab p) k f t u x a b x2 w0 H w K:=by
  intro x2 H w hs E hx;unfold Cj;rw[hkd];refine⟨fun h=>J1 ai H w hs E Uc,fun h=>⟨fun h2=>?_,fun h2=>J1 ak H w hs E ?_⟩⟩
  .refine(yJ p b w<|Q.pure E).mono ?_;rintro _ _ ⟨_,rfl,rfl,rfl⟩;refine⟨_,rfl,av.refl _,J1 _ H _ hs E ?_⟩;have h2:(fl k).fw=2:=Uc;rw[<-hx,h];simp[h2]
  .grind
 refine⟨fun h=>?_,fun h=>?_⟩
 .intro H1 w3 A
  refine(yJ p a w3<|Q.pure A.first).mono ?_
  rintro _ _ ⟨_,rfl,rfl,rfl⟩
  refine⟨_,rfl,av.refl _,J2 _ H1 _ A.jj A.first ?_⟩
  have:1<=(fl k).fw:=Uc
  simp[this]
 .intro H1 w3 A
  refine J2 _ H1 _ A.jj A.first ?_
  have:¬1<=(fl k).fw:=Uc
  simp[this]
def SL(p1:Option ao)(aA:Option ao)(t1:Int)(v:af)(K:jw)(h:cq v [(vp p1)] 91 fun p2 w1=>cq w1 [(vp aA)] 91 fun p3 w2=>cq w2 [(vi 0)] 73 fun q w3=>cq w3 [(vi 0)] 54 fun o O=>∃v1,O.cell? p2=ab (vp v1)/\Br (Option.isNone v1) (iq O bl q (vi 0) fun w5=>iq w5 bl o (vi 0) fun w6=>∃aC,w6.cell? q=ab (vi aC)/\∃aD,w6.cell? o=ab (vi aD)/\K aC aD w6) (∃v2,O.cell? p3=ab (vp v2)/\cl 130 #[(vp v2),(vi t1)] O (XC fun r1 C=>av bl O C/\Br (!r1) (iq C bl q (vi 0) fun w8=>iq w8 bl o (vi 51) fun w9=>∃aE,w9.cell? q=ab (vi aE)/\∃aF,w9.cell? o=ab (vi aF)/\K aE aF w9) (∃v3,C.cell? p2=ab (vp v3)/\nq C v3 fun v4=>cq C [(vi 0)] 3 fun p6 w10=>iq w10 bl p6 (vi (v4.ay:Int)) fun w11=>∀p7 I,fp w11 (.map #[] 0) p7 I->cq I [(.map bo)] 197 fun Q w13=>iq w13 bl Q (.map<|ab p7.block) fun u=>∃v5,u.cell? p3=ab (vp v5)/\cl 131 #[(vp v5),(vi t1)] u (XI fun r2 n=>av bl u n/\∃(f1:FuncId) (H:Array bk),r2=.func (.func f1) #[] H/\(∀args w,(callFunc f1 args).run prog w=.ok (.enter f1 args) w)/\∃(t:List (Int)) (S:WP),sX prog f1 H (fun (s:Int)=>#[(vi s)]) t S n/\∃(E y:List (Int)->NP->WP),AF v S E (fun _ _ _=>False) y/\E [] bl n/\(∀(g:List (Int)) (s:Int) (z:NP) (r:af),E g z r->au v z r z r->(∃Z,t=g++s :: Z)->∃v6,r.cell? p3=ab (vp v6)/\cl 109 #[(vp v6),(vi s)] r (XH fun aG aH aI aJ aK aL aM r3 F=>av bl r F/\cq F [(vi 0),(vi 0),(vi 0),(vu 0),ve,(vi 0),(vi 0)] 119 fun A w17=>rI w17 bl A 7 (Ab aG aH aI aJ aK aL aM) fun w18=>jh w18 fun C1 i=>∃v7:Option Nat,i.cell? Q=ab (.map v7)/\∃v8,i.cell? (A.add 5)=ab (vi v8)/\∃v9,(Instr.lookup 197 (.map v7) (vi v8) ak).run prog i=.ok (vi v9) i/\∃V:Option Nat,(∀w',C1 w'->w'.cell? Q=ab (.map V))/\∃M,i.cell? (A.add 6)=ab (vi M)/\∃R,(∀w',C1 w'->(Instr.lookup 197 (.map V) (vi M) ak).run prog w'=.ok (vi R) w')/\iq i bl (A.add 5) (vi v9) fun G=>C1 G/\iq G bl (A.add 6) (vi R) fun k=>∃P,k.cell? p2=ab (vp P)/\ov k A fun aN aO aP aQ aR aS aT=>cl 132 #[(vp P),(.agg #[(vi aN),(vi aO),(vi aP),(vu aQ),(vs aR),(vi aS),(vi aT)])] k<|XK fun r4 r5 e=>av bl k e/\Br (r5 != 0) (∃T,e.cell? p2=ab (vp T)/\∃U,e.cell? p6=ab (vi U)/\cl 126 #[(vp T),(vi U)] e (XG fun N=>av bl e N/\iq N bl q (vi 0) fun w24=>iq w24 bl o (vi r5) fun X=>av z r X/\y (g++[s]) z X)) (∃B:Option Nat,e.cell? Q=ab (.map B)/\∃m:af,(Instr.mapUpdate 197 (.map B) (vi s)<|vi r4).run prog e=.ok () m/\av bl e m/\av z r m/\E (g++[s]) z m)))/\(∀p f,au v p f p f->(∀b,bl b->p b)->av bl n f->E t p f->∃L:Option Nat,f.cell? Q=ab (.map L)/\∃D,(Instr.lookup 197 (.map L) (vi t1) ak).run prog f=.ok (vi D) f/\iq f p q (vi D) fun w28=>iq w28 p o (vi 0) fun w29=>∀l,au v p w29 p l->∃aU,l.cell? q=ab (vi aU)/\∃aV,l.cell? o=ab (vi aV)/\K aU aV l)/\(∀(W:List (Int)) (H2:NP) (j:af),au v H2 j H2 j->y W H2 j->∃aW,j.cell? q=ab (vi aW)/\∃aX,j.cell? o=ab (vi aX)/\K aW aX j)))))):
  cl 69 #[(vp p1),(vp aA),(vi t1)] v<|XK K:=
 gh func69 h<|jx 0<|jx 0<|jx 0<|jx 0<|ld 0<|br 0 1 (iz 1<|iz 0<|gu 0<|u9<|u9<|gw)<|ld 1<|cc 1 call130<|xe<|cz<|br 0 1 (iz 1<|iz 0<|gu 0<|u9<|u9<|gw)<|ld 1<|nc 0<|ld 1<|jx 1<|iz 0<|jx 0<|jx 0<|iz 0<|ld 0<|cc 1 call131<|xe<|cz<|dd<|fx fun hv5=>fx fun hf1=>dd<|fx fun J=>dd<|fx fun aB=>fx fun hz1=>fx fun hb1=>rf 0 1 hv5 hf1 J aB hz1 hb1 (fun h Y x a b c d=>h.1 Y x a b c<|d.elim id fun⟨_,h⟩=>h.elim) (fun h=>h.2) (ld 0<|cc 1 call109<|dh<|dd<|cz<|jx 3<|u6 0<|dC 1 [9,11] [11]<|pN 0<|pN 1<|xe<|Io 0<|km 0<|pN 1<|xe<|wJ 0<|Rt 1<|iz 1<|ld 0<|dh<|xe<|lr 0<|cc 0 call132<|dd<|cz<|br 0 7 (ld 1<|ld 0<|cc 0 call126<|cz<|iz 1<|iz 0<|rdr 0)<|ld 1<|xe<|es 2<|nR<|Et 0) (ld 0<|xe<|rn 1<|iz 0<|iz 0<|lz 0<|gu 0<|u9<|u9<|gw)<|gu 0<|u9<|u9<|gw
def OV(a:bk)(r1:Sl)(d:Int)(b:af)(e:iy)(K:WP):Prop:=Br (decide (d<(r1.ay:Int))) (∃a1:ao,At r1 d 1 a1/\li b a1 fun g=>∃(c:Nat),a=.func (.yield c) #[] #[]/\wZ prog c #[(vi g)] b (XC fun b1 f=>Br (!b1) (K f)<|e (q6.wrap<|d+1) f))<|K b
def YJ(a:bk)(c b:ao)(i:af)(K:WP)(h:lp i c fun m=>li i b fun n=>cl 179 #[(vp m),(vi n)] i<|XA fun r1 o=>∃(j:Int->WP) (f:Int->af->Nat),j 0 o/\∀(e:Int) (d:af),j e d->OV a r1 e d (fun g w'=>j g w'/\f g w'<f e d) K):
  cl 178 #[a,(vp<|ab c),(vp<|ab b)] i<|XG K:=
 gg func178 h<|ld 0<|ld 0<|cc 0 call179<|xe<|fh<|wc (l:=[Int]) (v:=(_,())) 2 [0,8,9] (fun e=>[(10,(vi e))])<|fun {_ _ e}=>fun p=>br 0 1 (ix 1<|ld 0<|xe<|fx fun k=>cy 3 k<|xe<|fh<|br 0 1 (rr 1)<|gn 3<|p _)<|rr 1
def RC(a:bk)(f:Sl)(d:Int)(b:af)(e:iy)(K:WP):Prop:=Br (decide (d<(f.ay:Int))) (∃a1:ao,At f d 1 a1/\li b a1 fun h=>∃(c:Nat),a=.func (.yield c) #[] #[]/\wZ prog c #[(vi h)] b (XC fun b1 g=>Br (!b1) (K g)<|e (q6.wrap<|d+1) g))<|K b
def jcM(a:bk)(b:ao)(i:af)(K:WP)(h:lx i b fun k=>∃(g:Int->WP) (e:Int->af->Nat),g 0 i/\∀(d:Int) (c:af),g d c->RC a k d c (fun f w'=>g f w'/\e f w'<e d c) K):
  cl 188 #[a,(vp<|ab b)] i<|XG K:=
 gg func188 h<|ld 0<|wc (l:=[Int]) (v:=(_,())) 2 [0,5,6] (fun d=>[(7,(vi d))])<|fun {_ _ d}=>fun m=>br 0 1 (ix 1<|ld 0<|xe<|fx fun j=>cy 3 j<|xe<|fh<|br 0 1 (rr 1)<|gn 3<|m _)<|rr 1
def Ti(s1:Sl)(f:bk)(j:af)(K:iu)(h:cq j [s1.v] 46 fun y z=>∃(t:FuncId) (s:Array bk),f=.func (.func t) #[] s/\(∀args w,(callFunc t args).run prog w=.ok (.enter t args) w)/\∃(g:List (Int)) (n:WP),sX prog t s (fun (o:Int)=>#[(vi o)]) g n z/\∃(m:List (Int)->NP->WP),AF j n m (fun _ _ _=>False) (fun _ _ _=>False)/\m [] bl z/\(∀(e:List (Int)) (o:Int) (q:NP) (l:af),m e q l->au j q l q l->(∃r,g=e++o :: r)->lx l y fun J=>cq l [(vi o)] 73 fun I E=>∃G:Sl,∃D:af,(cm #[46,46] 46 #[J.v,(Sl.mk (ab I) 1 1).v]).run prog E=.ok G.v D/\av bl E D/\iq D bl y G.v fun H=>av q l H/\m (e++[o]) q H)/\∀i k,au j i k i k->(∀b,bl b->i b)->av bl z k->m g i k->lx k y fun M=>∀F,au j i k i F->K M F):
  cl 276 #[s1.v,f] j<|XA K:=
 gh func276 h<|jx 0<|dd<|fx fun B=>fx fun u=>dd<|fx fun p=>xe<|fx fun L=>fx fun C=>fx fun A=>rf 2 1 B u p L C A (fun h Y x a b c d=>h Y x a b c<|d.elim id fun⟨_,h⟩=>h.elim) (fun _ _ _ _ _ h=>h) (ld 0<|jx 1<|dd<|ef 0<|nR<|iz 0<|Et 0) (ld 0<|lz 1<|rr 0)<|fun _ h=>h.elim
def CQ(a:Int):Bool:=(((a==7) ||(a==8)) ||(a==9))
def jbk(a:Int)(f:af):cl 209 #[(.int .i64 a)] f (fun e w'=>e=.returned (.bool<|CQ a)/\aq f w'):=
 nT func209 [] (fun b=>(vb<|((a==7) ||(a==8)) ||(a==9))) fun h=>pj 1 0 [] [] (fun b=>[(2,(vb<|((a==7) ||(a==8)) ||(a==9)))]) (fun g=>ct 3 3<|pj 0 0 [(a==7)] [0] (fun b=>[(8,(vb<|(b 0) ||(a==8)))]) (fun c=>pb 1 0 0 c (fun c=>pe 3 0 c)<|fun c=>pe 3 0 c)<|ct 1 3<|pj 0 0 [((a==7) ||(a==8))] [] (fun b=>[(12,(vb<|(b 0) ||(a==9)))]) (fun d=>pb 1 0 0 d (fun d=>pe 3 0 d)<|fun d=>pe 3 0 d)<|pe 1 0 g)<|jk 0 h
def Ht(s1:Sl)(d j:Int)(h i:Int)(g:Bool)(H:NP)(w:af)(a:pR)(k:iu):Prop:=Br g (∃b:ao,At s1 h 1 b/\iq w H b (vb ai) fun e=>Br (j==4) (∃c:ao,At s1 i 1 c/\iq e H c (vb ai) fun f=>a (q6.wrap<|d-1) H f) (a (q6.wrap<|d-1) H e)) (a (q6.wrap<|d-1) H w)
def Vb(p:Option ao)(s1:Sl)(e:Int)(k:af)(b:NP)(a:af)(g:pR)(K:iu):Prop:=Br (decide (e>=1)) (jz a p fun m=>cl 64 #[(vp m),(vi e)] a<|XH fun f t u s r q o r1 l=>av b a l/\∃d:ao,At s1 e 1 d/\∀j h,au k b l j h->lb h d fun n=>∀i c,au k j h i c->Ht s1 e f q o (n&&((f==4) ||(CQ f))) i c g K) (K s1 a)
def Xd(g:Option ao)(s1:Sl)(i1:Int)(l:af)(d:NP)(a:af)(i:pR)(K:iu):Prop:=pE a g 1 fun q=>Br (decide (i1<(q.ay:Int))) (pE a g 1 fun n=>∃a5:ao,At n i1 1 a5/\li a a5 fun m=>∃k:ao,At s1 m 1 k/\iq a d k (vb ai) fun o=>i (q6.wrap<|i1+1) d o) (jz a g fun p=>nq a p fun r=>∃(j:Int->NP->WP) (e:Int->af->Nat),j (r.ay:Int) d a/\∀(h:Int) (c:NP) (b:af),au l c b c b->j h c b->Vb g s1 h l c b (fun f s w'=>j f s w'/\e f w'<e h b) K)
def HT(h:Option ao)(c:af)(K:iu):Prop:=jz c h fun k=>nq c k fun i=>∃s1:Sl,∃g:af,(Instr.makeSlice 189 (vi<|q6.wrap<|(i.ay:Int)+1)<|vi<|q6.wrap<|(i.ay:Int)+1).run prog c=.ok s1.v g/\av bl c g/\∃(f:Int->NP->WP) (d:Int->af->Nat),f 0 bl g/\∀(i1:Int) (b:NP) (a:af),au c b a b a->f i1 b a->Xd h s1 i1 c b a (fun e j w'=>f e j w'/\d e w'<d i1 a) K
def Zs(k1 w0 K)(h:HT k1 w0 K):
  cl 151 #[(vp k1)] w0<|XA K:=
 gh func151 h<|nc 2<|ld 1<|nc 0<|ld 1<|dd<|ef 2<|nR<|wa (l:=[Int]) (v:=(_,())) 2 [0,3] (fun i1=>[(4,(vi i1))])<|fun {_ _ i1}=>fun k=>nc 2<|ld 1<|br 0 2 (nc 3<|ld 1<|ix 1<|ld 0<|ix 0<|iz 0<|je 3 0<|k _)<|nc 2<|ld 1<|nc 0<|ld 1<|wa (l:=[Int]) (v:=(_,())) 2 [0,3] (fun g=>[(5,(vi g))])<|fun {_ _ g}=>fun f=>br 0 2 (nc 2<|ld 1<|cc 1 call64<|dh<|fun {c}=>dd<|cz<|nh 3<|sg 0 0 []<|ja [Bool] 1 0 [0,3,5,6] (fun e=>[(70,(vb e))]) (fun e H w=>Ht _ _ _ _ _ e H w _ _) (fun i=>ix 2<|ah<|ld 0<|fun {j}=>ct 1 9<|pj 0 0 [j] [0,3,5,6] (fun b=>[(70,(vb<|(b 0)&&((c==4) ||(CQ c))))]) (fun d=>pb 1 0 0 d (fun d=>lh 1 0 []<|ct 2 4<|pj 0 0 [(c==4)] [0,3,5,6,61] (fun b=>[(69,(vb<|(b 0) ||(CQ c)))]) (fun a=>pb 1 0 0 a (fun a=>pe 4 0 a)<|fun a=>lh 1 0 []<|cp 0 call209 (jbk c)<|pe 1 0 a)<|pe 1 0 d)<|fun d=>pe 9 0 d)<|ah<|je 0 0<|i _)<|fun {e}=>br 0 0 (lh 3 0 [5]<|ix 0<|iz 0<|lh 1 0 []<|br 0 1 (lh 3 0 [6]<|ix 0<|iz 0<|je 3 1<|f _)<|je 4 1<|f _)<|je 4 1<|f _)<|rr 3
def PS(r1 l1:Sl)(b:Int)(a:af)(c:vw)(K:iu):Prop:=Br (decide (b<(r1.ay:Int))) (∃a1:ao,At r1 b 1 a1/\lb a a1 fun f=>Br f (cq a [(vi b)] 73 fun e g=>∃s1:Sl,∃d:af,(cm #[46,46] 46 #[l1.v,(Sl.mk (ab e) 1 1).v]).run prog g=.ok s1.v d/\c s1 (q6.wrap<|b+1) d) (c l1 (q6.wrap<|b+1) a)) (K l1 a)
def jbn(g:Option ao)(i:af)(K:iu)(h:cl 151 #[(vp g)] i (XA fun r1 k=>∃(f:Sl->Int->WP) (d:Sl->Int->af->Nat),f Sl.nil 1 k/\∀(l1:Sl) (b:Int) (a:af),f l1 b a->PS r1 l1 b a (fun e c w'=>f e c w'/\d e c w'<d l1 b a) K)):
  cl 94 #[(vp g)] i<|XA K:=
 gg func94 h<|cc 2 call151<|xe<|fh<|wc (l:=[Sl,Int]) (v:=(_,_,())) 3 [3] (fun l1 b=>[(4,(Sl.v l1)),(5,(vi b))])<|fun {_ _ l1 b}=>fun j=>br 0 4 (ix 3<|ld 0<|br 0 0 (fy 3<|dd<|ef 0<|kv<|gn 4<|j _ _)<|gn 4<|j _ _)<|rr 3
def jdm(e:Option ao)(b:Sl)(a:Int)(c:af)(K:ke)(h:jz c e fun f=>cl 122 #[(vp f),(.agg #[(vi 6),(vi a),(vi 0),(vu 0),ve,(vi 0),(vi 0)])] c<|XE fun r1 r2 d=>Br r2 (∃a2:ao,At b r1 1 a2/\lb d a2 fun g=>K g d)<|K ak d):
  cl 212 #[(vp e),b.v,(vi a)] c<|XC K:=
 gg func212 h<|nc 2<|ld 1<|cc 2 call122<|dd<|fh<|br 1 7 (ix 2<|ld 0<|rr 2)<|rr 6
def jaP(J:Option ao)(r1 s1:Sl)(b:Int)(k:af)(g:NP)(i:af)(c:pR)(K:iu):Prop:=Br (decide (b<(r1.ay:Int))) (jz i J fun v1=>cl 64 #[(vp v1),(vi b)] i<|XH fun h aD aE aF aG B Z r2 j=>av g i j/\∀P:Bool,P=(cond (h==1) (h==1)<|cond (h==2) (h==2)<|h==3)->Br P (∃a2:ao,At s1 b 1 a2/\∀e f,au k g j e f->iq f e a2 (vb ai) fun w8=>c (q6.wrap<|b+1) e w8) (Br (h==4) (∃a3:ao,At s1 b 1 a3/\∀e f,au k g j e f->lb f a3 fun v2=>Br v2 (∃a4:ao,At s1 b 1 a4/\iq f e a4 (vb ai) fun w9=>c (q6.wrap<|b+1) e w9) (∃a5:ao,At s1 B 1 a5/\lb f a5 fun v3=>Br v3 (∃Q:ao,At s1 Z 1 Q/\lb f Q fun W=>∃R:ao,At s1 b 1 R/\iq f e R (vb W) fun F=>c (q6.wrap<|b+1) e F) (∃S:ao,At s1 b 1 S/\iq f e S (vb ak) fun G=>c (q6.wrap<|b+1) e G))) (Br (h==5) (∃T:ao,At s1 b 1 T/\∀e f,au k g j e f->lb f T fun U=>Br U (∃s:ao,At s1 b 1 s/\iq f e s (vb ai) fun D=>c (q6.wrap<|b+1) e D) (∃w:ao,At s1 B 1 w/\lb f w fun Y=>∃z:ao,At s1 b 1 z/\iq f e z (vb Y) fun N=>c (q6.wrap<|b+1) e N)) (Br (cond (h==7) (h==7)<|h==8) (∃u:ao,At s1 b 1 u/\∀d a,au k g j d a->lb a u fun v7=>Br v7 (∃n:ao,At s1 b 1 n/\iq a d n (vb ai) fun M=>c (q6.wrap<|b+1) d M) (∃m:ao,At s1 B 1 m/\lb a m fun V=>Br V (cl 212 #[(vp J),r1.v,(vi aD)] a<|XC fun r3 o=>av d a o/\∃q:ao,At s1 b 1 q/\iq o d q (vb r3) fun I=>c (q6.wrap<|b+1) d I) (∃y:ao,At s1 b 1 y/\iq a d y (vb ak) fun L=>c (q6.wrap<|b+1) d L))) (Br (h==9) (∃r:ao,At s1 b 1 r/\∀d a,au k g j d a->lb a r fun X=>Br X (∃p:ao,At s1 b 1 p/\iq a d p (vb ai) fun E=>c (q6.wrap<|b+1) d E) (∃l:ao,At s1 B 1 l/\lb a l fun H=>Br H (cl 212 #[(vp J),r1.v,(vi aE)] a<|XC fun r4 t=>av d a t/\∃x:ao,At s1 b 1 x/\iq t d x (vb r4) fun O=>c (q6.wrap<|b+1) d O) (∃A:ao,At s1 b 1 A/\iq a d A (vb ak) fun C=>c (q6.wrap<|b+1) d C))) (∀d a,au k g j d a->c (q6.wrap<|b+1) d a)))))) (K s1 i)
def Kv(i:Option ao)(e:af)(K:iu):Prop:=cl 151 #[(vp i)] e<|XA fun r1 j=>av bl e j/\cq j [] 4 fun l k=>∃s1:Sl,∃h:af,(cm #[189,189] 189 #[(Sl.mk (ab l) 0 0).v,r1.v]).run prog k=.ok s1.v h/\av bl k h/\∃(f:Int->NP->WP) (c:Int->af->Nat),f 1 bl h/\∀(g:Int) (b:NP) (a:af),au e b a b a->f g b a->jaP i r1 s1 g e b a (fun d m w'=>f d m w'/\c d w'<c g a) K
def Tb(k1 w0 K)(h:Kv k1 w0 K):
  cl 155 #[(vp k1)] w0<|XA K:=
 gh func155 h<|cc 2 call151<|xe<|cz<|jx 1<|dd<|ef 1<|nR<|wa (l:=[Int]) (v:=(_,())) 2 [0,3,4] (fun f=>[(5,(vi f))])<|fun {_ _ f}=>fun a=>br 0 4 (nc 2<|ld 1<|cc 1 call64<|dh<|fun {d}=>dd<|cz<|nh 3<|sg 0 0 []<|lh 2 0 []<|pj 2 0 [(d==1),(d==2)] [0,3,4,5,6,29] (fun b=>[(30,(vb<|cond (b 0) (d==1)<|cond (b 1) (d==2)<|d==3))]) (fun c=>pb 0 0 0 c (fun c=>pe 1 0 c)<|fun c=>pb 0 3 1 c (fun c=>pe 1 0 c)<|fun c=>pe 3 0 c)<|yy<|br 0 0 (ix 3<|ah<|iz 0<|je 3 1<|a _)<|br 0 3 (ix 5<|ah<|ld 0<|br 1 1 (ix 13<|iz 0<|je 3 1<|a _)<|lh 2 0 [5]<|ix 0<|ld 0<|br 1 1 (lh 2 0 [6]<|ix 0<|ld 0<|ix 2<|iz 0<|je 3 1<|a _)<|ix 7<|iz 0<|je 3 1<|a _)<|br 0 3 (ix 5<|ah<|ld 0<|br 1 1 (ix 6<|iz 0<|je 3 1<|a _)<|lh 2 0 [5]<|ix 0<|ld 0<|ix 1<|iz 0<|je 3 1<|a _)<|pj 3 0 [(d==7)] [0,3,4,5,6,29] (fun b=>[(76,(vb<|cond (b 0) (d==7)<|d==8))]) (fun e=>pb 0 0 0 e (fun e=>pe 1 0 e)<|fun e=>pe 3 0 e)<|br 0 0 (ix 5<|ah<|ld 0<|br 1 1 (ix 13<|iz 0<|je 3 1<|a _)<|lh 2 0 [5]<|ix 0<|ld 0<|br 1 1 (lh 3 0 [1]<|cc 0 call212<|xe<|cz<|ix 2<|iz 0<|je 3 1<|a _)<|ix 7<|iz 0<|je 3 1<|a _)<|br 0 3 (ix 5<|ah<|ld 0<|br 1 1 (ix 13<|iz 0<|je 3 1<|a _)<|lh 2 0 [5]<|ix 0<|ld 0<|br 1 1 (lh 3 0 [2]<|cc 0 call212<|xe<|cz<|ix 2<|iz 0<|je 3 1<|a _)<|ix 7<|iz 0<|je 3 1<|a _)<|ah<|je 4 1<|a _)<|rr 3
def jcO(a:Option ao)(b:Int)(c:af)(K:ke)(h:jz c a fun f=>cl 112 #[(vp f),(vi b)] c<|XC fun r1 d=>Br r1 (cl 155 #[(vp a)] d<|XA fun r2 e=>∃a2:ao,At r2 b 1 a2/\lb e a2 fun g=>K g e) (K ak d)):
  cl 97 #[(vp a),(vi b)] c<|XC K:=
 gg func97 h<|nc 2<|ld 1<|cc 1 call112<|xe<|fh<|br 1 1 (cc 1 call155<|xe<|fh<|ix 1<|ld 0<|rr 2)<|rr 7
def jcn(l1:Sl)(d i1:Int)(a:af)(b:iy)(K:ke):Prop:=Br (decide (i1<(l1.ay:Int))) (∃a1:ao,At l1 i1 1 a1/\li a a1 fun c=>Br (c==d) (K ai a)<|b (q6.wrap<|i1+1) a)<|K ak a
def Wy(l1:Sl)(e:Int)(f:af)(K:ke)(h:∃(d:Int->WP) (b:Int->af->Nat),d 0 f/\∀(i1:Int) (a:af),d i1 a->jcn l1 e i1 a (fun c w'=>d c w'/\b c w'<b i1 a) K):
  cl 150 #[l1.v,(vi e)] f<|XC K:=
 gg func150 h<|wc (l:=[Int]) (v:=(_,())) 2 [0,1] (fun i1=>[(5,(vi i1))])<|fun {_ _ i1}=>fun g=>br 0 4 (ix 3<|ld 0<|br 0 2 (rr 2)<|gn 4<|g _)<|rr 2
def jbe(a:Option ao)(b:Int)(c:af)(K:iy)(h:jz c a fun j=>cl 112 #[(vp j),(vi b)] c<|XC fun r1 d=>Br (!r1) (K 51 d)<|pE d a 1 fun k=>cl 150 #[k.v,(vi b)] d<|XC fun r2 e=>Br (!r2) (pE e a 1 fun g=>cq e [(vi b)] 73 fun i m=>∃s1:Sl,∃f:af,(cm #[46,46] 46 #[g.v,(Sl.mk (ab i) 1 1).v]).run prog m=.ok s1.v f/\∃a4,a=ab a4/\ll f (a4.add 1) s1.v fun l=>K 0 l) (K 0 e)):
  cl 100 #[(vp a),(vi b)] c<|XB K:=
 gg func100 h<|nc 2<|ld 1<|cc 1 call112<|xe<|fh<|br 0 1 (rr 2)<|nc 2<|ld 1<|cc 1 call150<|xe<|fh<|br 0 1 (nc 3<|ld 1<|fy 1<|dd<|ef 0<|kv<|nc 0<|kz 1<|rr 1)<|rr 2
def jah(a:Int):Bool:=((decide (a>=4))&&(decide (a<=11)))
def L5(a:Int)(d:af):cl 286 #[(.int .i64 a)] d (fun e w'=>e=.returned (.bool<|jah a)/\aq d w'):=
 nT func286 [] (fun b=>(vb<|(decide (a>=4))&&(decide (a<=11)))) fun g=>pj 1 0 [] [] (fun b=>[(2,(vb<|(decide (a>=4))&&(decide (a<=11))))]) (fun f=>ct 3 3<|pj 0 0 [(decide (a>=4))] [] (fun b=>[(8,(vb<|(b 0)&&(decide (a<=11))))]) (fun c=>pb 1 0 0 c (fun c=>pe 3 0 c)<|fun c=>pe 3 0 c)<|pe 1 0 f)<|jk 0 g
def Bb(a:Int):Bool:=((a==4) ||((decide (a>=9))&&(decide (a<=11))))
def jcs(a:Int)(f:af):cl 287 #[(.int .i64 a)] f (fun e w'=>e=.returned (.bool<|Bb a)/\aq f w'):=
 nT func287 [] (fun b=>(vb<|(a==4) ||((decide (a>=9))&&(decide (a<=11))))) fun h=>pj 1 0 [] [] (fun b=>[(2,(vb<|(a==4) ||((decide (a>=9))&&(decide (a<=11)))))]) (fun g=>ct 3 7<|pj 0 0 [(a==4)] [] (fun b=>[(12,(vb<|(b 0) ||((decide (a>=9))&&(decide (a<=11)))))]) (fun c=>pb 1 0 0 c (fun c=>pe 7 0 c)<|fun c=>ct 3 3<|pj 0 0 [(decide (a>=9))] [5] (fun b=>[(11,(vb<|(b 0)&&(decide (a<=11))))]) (fun d=>pb 1 0 0 d (fun d=>pe 3 0 d)<|fun d=>pe 3 0 d)<|pe 1 0 c)<|pe 1 0 g)<|jk 0 h
def Ki(n1:Int):Int:=(cond (decide (n1>2147483648)) (-1)<|q6.wrap n1)
def N5(n1:Int)(c:af):cl 288 #[(.int .u64 n1)] c (fun e w'=>e=.returned (.int .i64<|Ki n1)/\aq c w'):=
 nT func288 [(decide (n1>2147483648))] (fun b=>(vi<|cond (b 0) (-1)<|q6.wrap n1)) fun a=>pb 0 3 0 a (fun a=>jk 2 a)<|fun a=>jk 4 a
def BS(k:Option ao)(d m:Sl)(e D:Int)(Z T:Int)(aF:ByteArray)(a1 E:Int)(U X:Int)(q c:Int)(C t:Int)(r:ByteArray)(F P:Int)(h:af)(H:NP)(w:af)(K:jw):Prop:=Br (e==0) (Br ((decide (D<0)) ||(decide (D>=(d.ay:Int)))) (∀o f,au h H w o f->K 0 90 f)<|∃a2:ao,At d D 1 a2/\∀o f,au h H w o f->li f a2 fun v1=>K v1 0 f) (Br (e==1) (cl 60 #[(vp k),(.agg #[(vi 1),(vi D),(vi 0),(vu 0),ve,(vi 0),(vi 0)])] w<|XK fun r2 r3 x=>av H w x/\K r2 r3 x) (Br (e==2) (cl 60 #[(vp k),(.agg #[(vi 2),(vi 0),(vi 0),(vu T),ve,(vi 0),(vi 0)])] w<|XK fun r4 r5 B=>av H w B/\K r4 r5 B) (Br (e==3) (cl 60 #[(vp k),(.agg #[(vi 3),(vi 0),(vi 0),(vu 0),(vs aF),(vi 0),(vi 0)])] w<|XK fun Y r7 y=>av H w y/\K Y r7 y) (Br (e==4) (∃a3:ao,At m Z 1 a3/\li w a3 fun v2=>cl 60 #[(vp k),(.agg #[(vi 4),(vi 0),(vi 0),(vu 0),ve,(vi a1),(vi v2)])] w<|XK fun r8 r9 s=>av H w s/\K r8 r9 s) (Br (e==5) (cl 60 #[(vp k),(.agg #[(vi 5),(vi 0),(vi 0),(vu 0),ve,(vi a1),(vi 0)])] w<|XK fun I N u=>av H w u/\K I N u) (Br (cond (e==6) (e==6)<|e==7) (Br (E !=4) (∀b a,au h H w b a->K 0 90 a)<|Br (e==6) (∀b a,au h H w b a->K U 0 a)<|∀b a,au h H w b a->K X 0 a)<|Br (e==8) (Br (((E !=7)&&(E !=8))&&(E !=9)) (∀n g,au h H w n g->K 0 90 g)<|∀n g,au h H w n g->K U 0 g)<|Br (e==9) (∀b a,au h H w b a->cl 60 #[(vp k),(.agg #[(vi 7),(vi c),(vi 0),(vu 0),ve,(vi a1),(vi 0)])] a (XK fun O M z=>av b a z/\K O M z))<|Br (e==10) (∀b a,au h H w b a->jh a fun V A=>cl 288 #[(vu T)] A<|XB fun S i=>V i/\av b A i/\cl 60 #[(vp k),(.agg #[(vi 8),(vi c),(vi S),(vu 0),ve,(vi a1),(vi 0)])] i (XK fun R L p=>V p/\av b i p/\K R L p)) (∀b a,au h H w b a->jh a fun W v=>cl 288 #[(vu T)] v<|XB fun Q j=>W j/\av b v j/\cl 60 #[(vp k),(.agg #[(vi 9),(vi Q),(vi c),(vu 0),ve,(vi a1),(vi 0)])] j (XK fun G J l=>W l/\av b j l/\K G J l))))))))
def EV(i:Option ao)(d b:Sl)(k o:Int)(j r:Int)(p:ByteArray)(a1:Int)(h:af)(H:NP)(w:af)(K:jw):Prop:=cl 64 #[(vp i),(vi a1)] w<|XH fun q D C E B m l r1 f=>av H w f/\Br (decide (k>=9)) (∃a4:ao,At b j 1 a4/\∀a c,au h H f a c->li c a4 fun y=>cl 64 #[(vp i),(vi y)] c<|XH fun n x s z A v t u g=>av a c g/\Br (n !=6) (∀e,au h a g a e->K 0 90 e) (∀e,au h a g a e->BS i d b k o j r p a1 q m l n x s z A v t h a e K)) (∀a c,au h H f a c->BS i d b k o j r p a1 q m l 0 0 0 0 ⟨#[]⟩ 0 0 h a c K)
def jbt(L:Option ao)(j a:Sl)(g n:Int)(s N:Int)(M:ByteArray)(E:af)(K:jw)(h:∀O:Bool,O=((((decide (g<0)) || (decide (g>11))) || (((decide (g>=4)) && (decide (g<=11))) && ((decide (n<0)) || (decide (n>=(a.ay:Int)))))) || ((Bb g) && ((decide (s<0)) || (decide (s>=(a.ay:Int))))))->Br O (∀o G,au E bl E o G->K 0 90 G) (Br ((decide (g>=4)) && (decide (g<=11))) (∃a5:ao,At a n 1 a5/\∀o p,au E bl E o p->li p a5 fun P=>EV L j a g n s N M P E o p K)<|∀o p,au E bl E o p->EV L j a g n s N M 0 E o p K)):
  cl 213 #[(vp L),j.v,a.v,(.agg #[(vi g),(vi n),(vi s),(vu N),(vs M)])] E<|XK K:=
 gh func213 h<|nh 0<|pj 2 0 [(((decide (g<0)) ||(decide (g>11))) ||(((decide (g>=4))&&(decide (g<=11)))&&((decide (n<0)) ||(decide (n>=(a.ay:Int))))))] [0,1,2,7] (fun b=>[(55,(vb<|(b 0) ||((Bb g)&&((decide (s<0)) ||(decide (s>=(a.ay:Int)))))))]) (fun t=>lh 1 0 []<|ct 2 4<|pj 0 0 [(decide (g<0))] [0,1,2,7] (fun b=>[(21,(vb<|(b 0) ||(decide (g>11))))]) (fun u=>pb 1 0 0 u (fun u=>pe 4 0 u)<|fun u=>lh 1 0 []<|pe 2 0 u)<|ct 1 16<|pj 0 0 [((decide (g<0)) ||(decide (g>11)))] [0,1,2,7] (fun b=>[(38,(vb<|(b 0) ||(((decide (g>=4))&&(decide (g<=11)))&&((decide (n<0)) ||(decide (n>=(a.ay:Int)))))))]) (fun B=>pb 1 0 0 B (fun B=>pe 16 0 B)<|fun B=>lh 1 0 []<|cp 0 call286 (L5 g)<|ct 1 11<|pj 0 0 [((decide (g>=4))&&(decide (g<=11)))] [0,1,2,7,22] (fun b=>[(37,(vb<|(b 0)&&((decide (n<0)) ||(decide (n>=(a.ay:Int))))))]) (fun q=>pb 1 0 0 q (fun q=>lh 1 0 [1]<|ct 2 6<|pj 0 0 [(decide (n<0))] [0,1,2,7,22,26] (fun b=>[(36,(vb<|(b 0) ||(decide (n>=(a.ay:Int)))))]) (fun r=>pb 1 0 0 r (fun r=>pe 6 0 r)<|fun r=>lh 1 0 [1]<|pe 4 0 r)<|pe 1 0 q)<|fun q=>pe 11 0 q)<|pe 1 0 B)<|pb 1 1 0 t (fun t=>pe 16 0 t)<|fun t=>lh 1 0 []<|cp 0 call287 (jcs g)<|ct 1 11<|pj 0 0 [(Bb g)] [0,1,2,7,39] (fun b=>[(54,(vb<|(b 0)&&((decide (s<0)) ||(decide (s>=(a.ay:Int))))))]) (fun C=>pb 1 0 0 C (fun C=>lh 1 0 [2]<|ct 2 6<|pj 0 0 [(decide (s<0))] [0,1,2,7,39,43] (fun b=>[(53,(vb<|(b 0) ||(decide (s>=(a.ay:Int)))))]) (fun x=>pb 1 0 0 x (fun x=>pe 6 0 x)<|fun x=>lh 1 0 [2]<|pe 4 0 x)<|pe 1 0 C)<|fun C=>pe 11 0 C)<|pe 1 0 t)<|yy<|br 0 0 (ah<|rr 3)<|lh 3 0 []<|cp 0 call286 (L5 g)<|ja [Int] 0 0 [0,1,2,7] (fun a1=>[(10,(vi a1))]) (fun a1 H w=>EV _ _ _ _ _ _ _ _ a1 _ H w _) (fun I=>br 0 0 (lh 3 0 [1]<|ix 0<|ah<|ld 0<|je 1 0<|I _)<|ah<|je 1 0<|I _)<|fun {a1}=>cc 2 call64<|dh<|fun {J}=>dd<|cz<|nh 3<|sg 0 0 []<|nh 2<|sg 0 0 []<|lh 1 2 []<|jb [Int,Int,Int,Int,ByteArray,Int,Int] 1 0 [0,1,2,7,10,11,13] (fun c d i f e k m=>[]) (fun c d i f e k m l=>dn l 0 0<|Ab c d i f e k m) (fun c d i f e k m H w=>BS _ _ _ _ _ _ _ _ _ _ _ _ c d i f e k m _ H w _) (fun F=>br 0 0 (lh 4 2 [2]<|ix 0<|ah<|ld 0<|cc 0 call64<|dh<|dd<|cz<|sg 3 0 []<|lh 1 0 []<|br 0 1 (an<|rr 3)<|an<|je 1 0<|F _ _ _ _ _ _ _)<|ah<|je 1 0<|F _ _ _ _ _ _ _)<|fun {c d i f e k m}=>lh 1 2 []<|br 0 2 (pj 1 0 [(decide (n<0))] [1,7] (fun b=>[(100,(vb<|(b 0) ||(decide (n>=(j.ay:Int)))))]) (fun y=>lh 1 2 [1]<|pb 1 2 0 y (fun y=>pe 6 0 y)<|fun y=>lh 1 2 [1]<|pe 4 0 y)<|br 0 0 (ah<|rr 3)<|lh 3 2 [1]<|ix 0<|ah<|ld 0<|rr 2)<|br 0 3 (lh 3 2 [1]<|cc 1 call60<|dd<|cz<|rr 4)<|br 0 3 (lh 3 2 [3]<|cc 1 call60<|dd<|cz<|rr 4)<|br 0 3 (lh 3 2 [4]<|cc 1 call60<|dd<|cz<|rr 4)<|br 0 3 (lh 5 2 [2]<|ix 0<|ld 0<|cc 1 call60<|dd<|cz<|rr 4)<|br 0 3 (cc 4 call60<|dd<|cz<|rr 4)<|pj 3 0 [(g==6)] [0,7,10,11,13,88] (fun b=>[(154,(vb<|cond (b 0) (g==6)<|g==7))]) (fun D=>pb 0 0 0 D (fun D=>pe 1 0 D)<|fun D=>pe 3 0 D)<|br 0 0 (lh 2 1 []<|br 0 1 (ah<|rr 3)<|lh 2 2 []<|br 0 1 (lh 2 1 [5]<|ah<|rr 2)<|lh 2 1 [6]<|ah<|rr 2)<|br 0 3 (pj 1 0 [((J !=7)&&(J !=8))] [11] (fun b=>[(181,(vb<|(b 0)&&(J !=9)))]) (fun z=>lh 1 1 []<|ct 2 4<|pj 0 0 [(J !=7)] [11] (fun b=>[(176,(vb<|(b 0)&&(J !=8)))]) (fun A=>pb 1 0 0 A (fun A=>lh 1 1 []<|pe 2 0 A)<|fun A=>pe 4 0 A)<|pb 1 1 0 z (fun z=>lh 1 1 []<|pe 2 0 z)<|fun z=>pe 4 0 z)<|br 0 0 (ah<|rr 3)<|lh 2 1 [5]<|ah<|rr 2)<|br 0 3 (lh 3 0 [1]<|ah<|cc 2 call60<|dd<|cz<|rr 4)<|br 0 3 (ah<|dC 1 [5,8] []<|ki 2 0 [1]<|ki 1 2 [3]<|cc 1 call288<|xe<|gQ<|cc 1 call60<|dd<|gQ<|rr 4)<|ah<|dC 1 [3,8] []<|ki 2 2 [3]<|ki 1 0 [1]<|cc 1 call288<|xe<|gQ<|cc 1 call60<|dd<|gQ<|rr 4
def Pf(l:Option ao)(b l1 a:Sl)(i1:Int)(c:af)(d:vw)(K:vw):Prop:=Br (decide (i1<(l1.ay:Int))) (∃a1:ao,At l1 i1 5 a1/\∃h g f j e,Row c a1 [(vi h),(vi g),(vi f),(vu j),(vs e)]/\cl 213 #[(vp l),b.v,a.v,(.agg #[(vi h),(vi g),(vi f),(vu j),(vs e)])] c (XK fun r1 r2 i=>Br (r2 !=0) (K a r2 i)<|cq i [(vi r1)] 73 fun m n=>∃s1:Sl,∃k:af,(cm #[46,46] 46 #[a.v,(Sl.mk (ab m) 1 1).v]).run prog n=.ok s1.v k/\d s1 (q6.wrap<|i1+1) k)) (K a 0 c)
def jaa(i:Option ao)(b l1:Sl)(j:af)(K:vw)(h:∃(g:Sl->Int->WP) (e:Sl->Int->af->Nat),g Sl.nil 0 j/\∀(a:Sl) (i1:Int) (c:af),g a i1 c->Pf i b l1 a i1 c (fun f d w'=>g f d w'/\e f d w'<e a i1 c) K):
  cl 156 #[(vp i),b.v,l1.v] j<|XR K:=
 gg func156 h<|wc (l:=[Sl,Int]) (v:=(_,_,())) 4 [0,1,2] (fun a i1=>[(8,(Sl.v a)),(9,(vi i1))])<|fun {_ _ a i1}=>fun k=>br 0 4 (ix 6<|ia<|lr 0<|cc 0 call213<|dd<|fh<|br 0 7 (rr 5)<|fy 3<|dd<|ef 0<|kv<|gn 4<|k _ _)<|rr 4
def jcS(d:Option ao)(a l1:Sl)(b:af)(K:uo)(h:Br (decide ((l1.ay:Int)>256)) (K 0 6 0 b) (Br (((l1.ay:Int):Int) == 0) (K 0 3 0 b)<|cl 156 #[(vp d),a.v,l1.v] b<|XR fun r1 r2 c=>Br (r2 != 0) (K 0 r2 (r1.ay:Int) c)<|∃a1:ao,At r1 (q6.wrap<|(r1.ay:Int) - 1) 1 a1/\li c a1 fun e=>K e 0 0 c)):
  cl 101 #[(vp d),a.v,l1.v] b<|XN K:=
 gg func101 h<|br 0 6 (rr 4)<|br 0 4 (rr 4)<|cc 4 call156<|dd<|fh<|br 0 7 (rr 7)<|ix 5<|ld 0<|rr 3
def U1(c:af)(K:sL):Prop:=cl 42 #[] c<|XD fun r1 a=>cl 43 #[(vp r1)] a<|XD fun r2 e=>cq e [(vp r2),(vp r1),(vb ak),(vb ak)] 98 fun b d=>K (ab b) d
def jdd(a:af)(K:sL)(h:U1  a K):
  cl 9 #[] a<|XD K:=
 gg func9 h<|cc 1 call42<|xe<|fh<|cc 2 call43<|xe<|fh<|fy 3<|rr 1
def jcu(a:Int):Bool:=((a==0) ||(a==1))
def Ct(a:Int)(d:af):cl 66 #[(.int .i64 a)] d (fun e w'=>e=.returned (.bool<|jcu a)/\aq d w'):=
 nT func66 [] (fun b=>(vb<|(a==0) ||(a==1))) fun g=>pj 1 0 [] [] (fun b=>[(2,(vb<|(a==0) ||(a==1)))]) (fun f=>ct 3 3<|pj 0 0 [(a==0)] [] (fun b=>[(8,(vb<|(b 0) ||(a==1)))]) (fun c=>pb 1 0 0 c (fun c=>pe 3 0 c)<|fun c=>pe 3 0 c)<|pe 1 0 f)<|jk 0 g
def jbr(e a:Int)(c:ByteArray)(b:af)(K:iu)(h:∀f d,au b bl b f d->cq d [(vi 2),(vi e),(vu a),(vs c),(vb ak),(vi 6),(vi 0),(vu a),(vs c),(vb ak)] 35 fun g i=>K (Sl.mk (ab g) 2 2) i):
  cl 103 #[(.agg #[(vi e),(vu a),(vs c)])] b<|XA K:=
 gh func103 h<|nh 0<|lh 2 0 []<|lh 1 0 [1]<|lh 1 0 [2]<|lh 2 0 [1]<|lh 1 0 [2]<|ah<|jx 1<|rr 1
def Ii(b:bk)(g r2:Int)(h:Bool)(H:NP)(w:af)(e:pR)(K:iy):Prop:=Br h (∃(f:FuncId) (c d:Array bk),b=.func (.func f) c d/\(∀args w,(callFunc f args).run prog w=.ok (.enter f args) w)/\Calls prog f (c++#[(vi r2)]++d) w (XC fun i a=>av H w a/\Br i (K r2 a) (e (q6.wrap<|g+1) H a)))<|e (q6.wrap<|g+1) H w
def Uq(k:Option ao)(a:bk)(r1:Sl)(g:Int)(s:af)(h:NP)(b:af)(f:pR)(K:iy):Prop:=Br (decide (g<(r1.ay:Int))) (∃a1:ao,At r1 g 5 a1/\ni b a1 fun p u o m l=>∀d j,au s h b d j->jh j fun t i=>wL i k 1 fun n=>cl 104 #[(vp n),(.agg #[(vi p),(vi u),(vu o),(vs m),(vb l)])] i<|XK fun r2 r3 c=>t c/\av d i c/\Br (r3==0) (jz c k fun r=>cl 63 #[(vp r),(vi r2)] c<|XC fun q e=>av d c e/\Ii a g r2 q d e f K) (Ii a g r2 ak d c f K)) (K 0 b)
def Jz(l:Option ao)(k o:Int)(p:ByteArray)(f:bk)(c:af)(K:iy):Prop:=Br ((Option.isNone l) ||(!((k==0) ||(k==1)))) (∀e d,au c bl c e d->K 0 d)<|∀e d,au c bl c e d->cl 103 #[(.agg #[(vi k),(vu o),(vs p)])] d (XA fun r1 m=>av e d m/\∃(i:Int->NP->WP) (g:Int->af->Nat),i 0 e m/\∀(j:Int) (b:NP) (a:af),au c b a b a->i j b a->Uq l f r1 j c b a (fun h n w'=>i h n w'/\g h w'<g j a) K)
def jby(f1 aA aB aC how1 w0 K)(h:Jz f1 aA aB aC how1 w0 K):
  cl 48 #[(vp f1),(.agg #[(vi aA),(vu aB),(vs aC)]),how1] w0<|XB K:=
 gh func48 h<|nh 0<|pj 1 0 [(Option.isNone f1)] [0,2,4] (fun b=>[(18,(vb<|(b 0) ||(!((aA==0) ||(aA==1)))))]) (fun a=>pb 1 3 0 a (fun a=>pe 5 0 a)<|fun a=>lh 1 0 []<|cp 0 call66 (Ct aA)<|pe 2 0 a)<|br 0 0 (ah<|rr 2)<|j9 1 0 [] 3<|ah<|cc 0 call103<|xe<|cz<|wa (l:=[Int]) (v:=(_,())) 2 [0,2,20,21] (fun g=>[(22,(vi g))])<|fun {_ _ g}=>fun e=>br 0 1 (ix 1<|ia<|lr 0<|nh 0<|sg 0 0 []<|ah<|dC 0 [6] []<|nc 1<|pN 2<|qa 0 0 [] 5<|cc 0 call104<|dd<|gQ<|ct 8 8<|ja [Bool] 0 0 [0,2,9,20,21,22] (fun c=>[(46,(vb c))]) (fun c H w=>Ii _ _ _ c H w _ _) (fun f=>br 1 0 (nc 1<|ld 2<|cc 1 call63<|xe<|cz<|je 1 0<|f _)<|je 8 0<|f _)<|fun {c}=>br 1 1 (fo<|fun d=>cv 2 d<|xe<|rt<|nR<|br 0 1 (rr 3)<|je 3 1<|e _)<|je 7 1<|e _)<|rr 2
def Zv(e:Option ao)(i d:Int)(g:ByteArray)(a:af)(K:ke)(h:∀c b,au a bl a c b->cl 48 #[(vp e),(.agg #[(vi i),(vu d),(vs g)]),(.func (.func 51) #[] #[])] b (XB fun r1 f=>av c b f/\K (r1 != 0) f)):
  cl 13 #[(vp e),(.agg #[(vi i),(vu d),(vs g)])] a<|XC K:=
 gh func13 h<|nh 0<|j9 2 0 [] 3<|ah<|cc 0 call48<|xe<|cz<|rr 2
def Xr(b:Option ao)(l1:Sl)(e:af)(K:QB)(h:Br (Option.isNone b) (K ⟨#[]⟩ 7 0 e) (jh e fun l c=>wL c b 1 fun j=>jz c b fun k=>cl 52 #[(vp j),(vp k),l1.v] c<|XN fun r1 r2 r3 a=>l a/\av bl c a/\Br (r2 != 0) (K ⟨#[]⟩ r2 r3 a) (wL a b 1 fun g=>cl 53 #[(vp g),(vi r1)] a<|XR fun m i d=>av bl a d/\∃f,(convert 59 9 m.v).run prog d=.ok (vs f) d/\K f i 0 d))):
  cl 14 #[(vp b),l1.v] e<|YD K:=
 gh func14 h<|br 0 5 (rr 4)<|dC 1 [11] []<|nc 1<|pN 2<|nc 1<|pN 2<|cc 1 call52<|rW<|gQ<|br 0 9 (rr 6)<|nc 2<|ld 2<|cc 1 call53<|dd<|cz<|xe<|rn 6<|rr 4
def V2(e:Option ao)(k n:Int)(j m:Int)(l:ByteArray)(i:Sl)(c:af)(K:ke)(h:Br (Option.isNone e) (∀b d,au c bl c b d->K ak d) (∀b d,au c bl c b d->jh d fun q f=>wL f e 1 fun o=>cl 62 #[(vp o),(.agg #[(vi k),(vi n),(vi j),(vu m),(vs l),i.v])] f<|XK fun r1 r2 a=>q a/\av b f a/\Br (r2 == 0) (jz a e fun p=>cl 63 #[(vp p),(vi r1)] a<|XC fun r3 g=>av b a g/\K r3 g) (K ak a))):
  cl 19 #[(vp e),(.agg #[(vi k),(vi n),(vi j),(vu m),(vs l),i.v])] c<|XC K:=
 gh func19 h<|nh 0<|br 0 3 (ah<|rr 2)<|ah<|dC 1 [6] []<|nc 1<|pN 2<|qa 0 0 [] 6<|cc 0 call62<|dd<|gQ<|br 1 8 (nc 1<|ld 2<|cc 1 call63<|xe<|cz<|rr 2)<|rr 9
def jaY(b:Option ao)(a:Int)(c:af)(K:ke)(h:wL c b 1 fun e=>cl 127 #[(vp e),(.agg #[(vi 6),(vi a),(vi 0),(vu 0),ve,(vi 0),(vi 0)])] c<|XE fun r1 r2 d=>Br r2 (jz d b fun f=>cl 128 #[(vp f),(vi r1)] d<|XC K)<|K ak d):
  cl 67 #[(vp b),(vi a)] c<|XC K:=
 gg func67 h<|nc 2<|ld 2<|cc 2 call127<|dd<|fh<|br 1 7 (nc 1<|ld 2<|cc 1 call128<|xe<|fh<|rr 2)<|rr 9
def jbB(e:Option ao)(a:Int)(f:af)(K:ke)(h:Br ((!(Option.isNone e)) && ((a == 0) || (a == 1))) (∀d c,au f bl f d c->cl 67 #[(vp e),(vi a)] c (XC fun r1 i=>av d c i/\Br r1 (K ai i) (cl 67 #[(vp e),(vi 2)] i<|XC fun r2 j=>av d i j/\K r2 j))) (∀d c,au f bl f d c->K ak c)):
  cl 21 #[(vp e),(vi a)] f<|XC K:=
 gh func21 h<|ct 4 3<|pj 0 0 [(!(Option.isNone e))] [0,1] (fun b=>[(10,(vb<|(b 0)&&((a==0) ||(a==1))))]) (fun g=>pb 1 0 0 g (fun g=>cp 1 call66 (Ct a)<|pe 1 0 g)<|fun g=>pe 3 0 g)<|br 1 1 (ah<|cc 2 call67<|xe<|cz<|br 1 1 (rr 5)<|cc 1 call67<|xe<|cz<|rr 3)<|ah<|rr 9
def Yf(j:Option ao)(r1:Option ao)(r2:Sl)(f:Int)(a:NP)(b:af)(d:pR)(K:sL):Prop:=Br (decide (f<(r2.ay:Int))) (∃a4:ao,At r2 f 1 a4/\li b a4 fun k=>jh b fun m e=>wL e r1 1 fun i=>wL e j 1 fun l=>cl 69 #[(vp i),(vp l),(vi k)] e<|XK fun r3 n c=>m c/\av a e c/\Br (n==0) (jz c r1 fun h=>cl 70 #[(vp h),(vi r3)] c<|XB fun o g=>av a c g/\d (q6.wrap<|f+1) a g) (d (q6.wrap<|f+1) a c)) (K r1 b)
def It(g:Option ao)(h:af)(K:sL):Prop:=Br (Option.isNone g) (K bo h)<|cl 9 #[] h<|XD fun r1 k=>av bl h k/\∃a1,g=ab a1/\∃f e,Row k (a1.add 2) [(vb f),(vb e)]/\∃a2,r1=ab a2/\rI k bl (a2.add 2) 2 [(vb f),(vb e)] fun l=>jz l g fun o=>cl 68 #[(vp o)] l<|XA fun r2 m=>av bl l m/\∃(i:Int->NP->WP) (c:Int->af->Nat),i 0 bl m/\∀(j:Int) (b:NP) (a:af),au h b a b a->i j b a->Yf g r1 r2 j b a (fun d n w'=>i d n w'/\c d w'<c j a) K
def YS(f1 w0 K)(h:It f1 w0 K):
  cl 22 #[(vp f1)] w0<|XD K:=
 gh func22 h<|br 0 3 (rr 2)<|cc 1 call9<|xe<|cz<|nc 3<|dd<|lr 1<|nc 0<|u6 1<|nc 1<|ld 2<|cc 0 call68<|xe<|cz<|wa (l:=[Int]) (v:=(_,())) 2 [0,3,23,24] (fun b=>[(25,(vi b))])<|fun {_ _ b}=>fun a=>br 0 1 (ix 1<|ld 0<|dC 1 [11] []<|nc 1<|pN 2<|nc 1<|pN 2<|cc 1 call69<|dd<|gQ<|br 0 7 (nc 2<|ld 2<|cc 1 call70<|xe<|cz<|je 2 0<|a _)<|je 3 0<|a _)<|rr 3
def jcA(b:Option ao)(a:ByteArray)(c:af)(K:ke)(h:Br (Option.isNone b) (K ak c) (wL c b 1 fun g=>∃e:Sl,∃f:af,(convert 9 59<|vs a).run prog c=.ok e.v f/\cl 71 #[(vp g),e.v] f (XN fun r1 r2 r3 d=>Br (r2 != 0) (K ak d)<|jz d b fun i=>cl 70 #[(vp i),(vi r1)] d<|XB fun k j=>K ai j))):
  cl 23 #[(vp b),(vs a)] c<|XC K:=
 gg func23 h<|br 0 3 (rr 2)<|nc 2<|ld 2<|dd<|ef 1<|kv<|cc 0 call71<|rW<|fh<|br 0 9 (rr 2)<|nc 2<|ld 2<|cc 1 call70<|xe<|fh<|rr 1
def jdh(x:Option ao)(r1 a:Sl)(h:Int)(n:af)(b:NP)(c:af)(f:qq)(K:iu):Prop:=Br (decide (h<(r1.ay:Int))) (∃a2:ao,At r1 h 1 a2/\li c a2 fun y=>wL c x 1 fun u=>cl 73 #[(vp u),(vi y)] c<|XW fun s t r z p r2 i=>av b c i/\Br r2 (∀d g,au n b i d g->cq g [(vi s),(vi t),(vu r),(vs z),(vb p)] 35 fun q o=>∃s1:Sl,∃j:af,(cm #[64,64] 64 #[a.v,(Sl.mk (ab q) 1 1).v]).run prog o=.ok s1.v j/\av d o j/\f s1 (q6.wrap<|h+1) d j) (∀d g,au n b i d g->f a (q6.wrap<|h+1) d g)) (cq c [(.nilFunc:bk)] 134 fun l w=>iq w b l (.func (.func 74) #[] #[]) fun m=>cl 75 #[a.v,(.func (.func 76) #[] #[(vp<|ab l)])] m<|XG fun k=>av b m k/\cl 81 #[a.v] k (XA fun r3 e=>av b k e/\K r3 e))
def Ij(i:Option ao)(d:af)(K:iu):Prop:=Br (Option.isNone i) (K Sl.nil d)<|jz d i fun m=>cl 72 #[(vp m)] d<|XA fun r1 k=>av bl d k/\∃(h:Sl->Int->NP->WP) (f:Sl->Int->af->Nat),h Sl.nil 0 bl k/\∀(a:Sl) (j:Int) (c:NP) (b:af),au d c b c b->h a j c b->jdh i r1 a j d c b (fun g e l w'=>h g e l w'/\f g e w'<f a j b) K
def Uv(f1 w0 K)(h:Ij f1 w0 K):
  cl 24 #[(vp f1)] w0<|XA K:=
 gh func24 h<|br 0 3 (rr 2)<|nc 3<|ld 2<|cc 0 call72<|xe<|cz<|wa (l:=[Sl,Int]) (v:=(_,_,())) 2 [0,16,17] (fun a c=>[(3,(Sl.v a)),(18,(vi c))])<|fun {_ _ a c}=>fun b=>br 0 1 (ix 1<|ld 0<|nc 2<|ld 2<|cc 1 call73<|dh<|cz<|nh 3<|sg 0 0 []<|br 0 2 (j9 2 0 [] 5<|ah<|jx 0<|dd<|ef 0<|nR<|je 3 1<|b _ _)<|ah<|je 3 1<|b _ _)<|jx 1<|iz 0<|cc 2 call75<|cz<|cc 1 call81<|xe<|cz<|rr 1
def jcz(g s:Int)(r1 a:Sl)(l:Int)(o:af)(c:NP)(b:af)(i:qq)(K:iu):Prop:=Br (decide (l<(r1.ay:Int))) (∃a1:ao,At r1 l 5 a1/\ni b a1 fun n t r p u=>∀m:Bool,m=((r==s)&&((n==6) ||((n==2)&&(t==g))))->Br m (∀f k,au o c b f k->cq k [(vs p)] 9 fun q h=>∃s1:Sl,∃e:af,(cm #[79,79] 79 #[a.v,(Sl.mk (ab q) 1 1).v]).run prog h=.ok s1.v e/\av f h e/\i s1 (q6.wrap<|l+1) f e) (∀f k,au o c b f k->i a (q6.wrap<|l+1) f k)) (cl 88 #[a.v] b<|XG fun d=>av c b d/\cl 89 #[a.v] d (XA fun r2 j=>av c d j/\K r2 j))
def KW(o:Option ao)(a m:Int)(e:af)(K:iu):Prop:=Br (!((a==0) ||(a==1))) (∀f,au e bl e bl f->K Sl.nil f)<|∀f,au e bl e bl f->cl 24 #[(vp o)] f (XA fun r1 l=>av bl f l/\∃(j:Sl->Int->NP->WP) (h:Sl->Int->af->Nat),j Sl.nil 0 bl l/\∀(b:Sl) (k:Int) (d:NP) (c:af),au e d c d c->j b k d c->jcz a m r1 b k e d c (fun i g n w'=>j i g n w'/\h i g w'<h b k c) K)
def jaC(f1 who1 c1 w0 K)(h:KW f1 who1 c1 w0 K):
  cl 26 #[(vp f1),(vi who1),(vu c1)] w0<|XA K:=
 gh func26 h<|cp 2 call66 (Ct who1)<|br 0 1 (an<|rr 2)<|an<|cc 3 call24<|xe<|cz<|wa (l:=[Sl,Int]) (v:=(_,_,())) 2 [1,2,14,15] (fun a i=>[(7,(Sl.v a)),(16,(vi i))])<|fun {_ _ a i}=>fun j=>br 0 1 (ix 1<|ia<|fun {d g k}=>lr 0<|nh 0<|sg 0 0 []<|pj 0 0 [(k==c1)] [1,2,7,9,14,15,16] (fun b=>[(39,(vb<|(b 0)&&((d==6) ||((d==2)&&(g==who1)))))]) (fun f=>lh 1 0 [2]<|pb 1 3 0 f (fun f=>lh 1 0 []<|ct 2 10<|pj 0 0 [(d==6)] [1,2,7,9,14,15,16,24] (fun b=>[(38,(vb<|(b 0) ||((d==2)&&(g==who1))))]) (fun e=>pb 1 0 0 e (fun e=>pe 10 0 e)<|fun e=>lh 1 0 []<|ct 2 5<|pj 0 0 [(d==2)] [1,2,7,9,14,15,16,24,28] (fun b=>[(37,(vb<|(b 0)&&(g==who1)))]) (fun c=>pb 1 0 0 c (fun c=>lh 1 0 [1]<|pe 3 0 c)<|fun c=>pe 5 0 c)<|pe 1 0 e)<|pe 1 0 f)<|fun f=>pe 15 0 f)<|yy<|br 0 0 (lh 3 0 [3]<|ah<|jx 0<|dd<|ef 0<|nR<|je 3 1<|j _ _)<|ah<|je 3 1<|j _ _)<|cc 2 call88<|cz<|cc 1 call89<|xe<|cz<|rr 1
def jcf(b:Option ao)(a:af)(K:iy)(h:Br (Option.isNone b) (K 0 a) (jz a b fun c=>cl 68 #[(vp c)] a<|XA fun r1 d=>K (r1.ay:Int) d)):
  cl 28 #[(vp b)] a<|XB K:=
 gg func28 h<|br 0 3 (rr 2)<|nc 2<|ld 2<|cc 0 call68<|xe<|fh<|rr 2
def Xf(f:Option ao)(a:Int)(d:af)(K:ke)(h:Br ((!(Option.isNone f)) && ((a == 0) || (a == 1))) (∃a1,f=ab a1/\∃a2:ao,Bs (a1.add 2) a 2 1 a2/\∀g c,au d bl d g c->lb c a2 fun i=>K i c) (∀g c,au d bl d g c->K ak c)):
  cl 30 #[(vp f),(vi a)] d<|XC K:=
 gh func30 h<|ct 4 3<|pj 0 0 [(!(Option.isNone f))] [0,1] (fun b=>[(10,(vb<|(b 0)&&((a==0) ||(a==1))))]) (fun e=>pb 1 0 0 e (fun e=>cp 1 call66 (Ct a)<|pe 1 0 e)<|fun e=>pe 3 0 e)<|br 1 1 (nc 2<|Gg 1<|ah<|ld 0<|rr 2)<|ah<|rr 8
def jdu(d:Option ao)(a:Int)(c:af)(K:iy)(h:Br (Option.isNone d) (K 7 c) (Br (!((a == 0) || (a == 1))) (∀b,au c bl c bl b->K 2 b)<|∃a1,d=ab a1/\∀b,au c bl c bl b->lp b (a1.add 1) fun i=>cl 99 #[(vp i),(vi a)] b<|XK fun r1 r2 e=>av bl b e/\Br (r2 != 0) (K r2 e) (jz e d fun j=>cl 70 #[(vp j),(vi r1)] e<|XB fun r3 f=>av bl e f/\∃a3,d=ab a3/\∃a4:ao,Bs (a3.add 2) a 2 1 a4/\iq f bl a4 (vb ai) fun g=>K 0 g))):
  cl 41 #[(vp d),(vi a)] c<|XB K:=
 gh func41 h<|br 0 4 (rr 2)<|cp 2 call66 (Ct a)<|br 0 2 (an<|rr 2)<|nc 2<|an<|ld 2<|cc 1 call99<|dd<|cz<|br 0 7 (rr 3)<|nc 2<|ld 2<|cc 1 call70<|xe<|cz<|nc 2<|Gg 1<|iz 0<|rr 1
def Ud(a:Int):Bool:=ai
def jaE(c:Int)(a:af):cl 51 #[(.int .i64 c)] a (fun e w'=>e=.returned (.bool<|Ud c)/\aq a w'):=
 nT func51 [] (fun b=>(vb ai)) fun d=>jk 2 d
def UW(e d b:Int)(c:ByteArray)(a:Bool):Int:=(cond a 1 0)
def Nu(i h d:Int)(g:ByteArray)(c:Bool)(f:af):cl 74 #[(.agg #[(.int .i64 i),(.int .i64 h),(.int .u64 d),(.string g),(.bool c)])] f (fun e w'=>e=.returned (.int .i64<|UW i h d g c)/\aq f w'):=
 nT func74 [c] (fun b=>(vi<|cond (b 0) 1 0)) fun a=>nh 0<|lh 2 0 [4]<|pb 0 0 0 a (fun a=>jk 2 a)<|fun a=>jk 2 a
def WK(y B u:Int)(C:ByteArray)(I:Bool)(F z x:Int)(A:ByteArray)(G:Bool)(a:ao)(E:af)(K:iy)(h:∀c H,au E bl E c H->jh H fun b M=>∃J:bk,(∀w',b w'->w'.cell? a=ab J)/\∃L:bk,(∀w',b w'->w'.cell? a=ab L)/\cl 78 #[(vi y),(vi F)] M (XB fun r1 o=>b o/\av c M o/\cl 78 #[(vi B),(vi z)] o (XB fun r2 s=>b s/\av c o s/\cl 79 #[(vu u),(vu x)] s (XB fun r3 m=>b m/\av c s m/\cl 80 #[(vs C),(vs A)] m (XB fun R p=>b p/\av c m p/\∃(q:FuncId) (g j:Array bk),J=.func (.func q) g j/\(∀args w,(callFunc q args).run prog w=.ok (.enter q args) w)/\Calls prog q (g++#[(.agg #[(vi y),(vi B),(vu u),(vs C),(vb I)])]++j) p (XB fun S r=>b r/\av c p r/\∃(l:FuncId) (k i:Array bk),L=.func (.func l) k i/\(∀args w,(callFunc l args).run prog w=.ok (.enter l args) w)/\Calls prog l (k++#[(.agg #[(vi F),(vi z),(vu x),(vs A),(vb G)])]++i) r (XB fun N n=>b n/\av c r n/\cl 78 #[(vi S),(vi N)] n (XB fun Q e=>b e/\av c n e/\cq e [(vi r1),(vi r2),(vi r3),(vi R),(vi Q)] 3 fun O f=>b f/\cl 77 #[(Sl.mk (ab O) 5 5).v] f (XB fun P d=>b d/\av c f d/\K P d))))))))):
  cl 76 #[(.agg #[(vi y),(vi B),(vu u),(vs C),(vb I)]),(.agg #[(vi F),(vi z),(vu x),(vs A),(vb G)]),(vp<|ab a)] E<|XB K:=
 gh func76 h<|nh 0<|nh 0<|ah<|dC 1 [4,9,14,19,22,25,26,27,28] []<|ki 1 1 []<|ki 1 0 []<|ki 1 1 [1]<|ki 1 0 [1]<|ki 1 1 [2]<|ki 1 0 [2]<|ki 1 1 [3]<|ki 1 0 [3]<|km 0<|qa 0 1 [] 5<|km 0<|qa 0 0 [] 5<|cc 0 call78<|xe<|gQ<|cc 0 call78<|xe<|gQ<|cc 0 call79<|xe<|gQ<|cc 0 call80<|xe<|gQ<|fo<|fun t=>cv 0 t<|xe<|rt<|oE<|fo<|fun D=>cv 0 D<|xe<|rt<|oE<|cc 0 call78<|xe<|gQ<|py 0<|cc 0 call77<|xe<|gQ<|rr 1
def Y1(d:af)(K:FW):Prop:=cq d [(vb ak),(vb ak),(vb ak),ve,(vb ak),(vb ak),(vb ak),ve,(vb ak),(vb ak),(vb ak),ve,(vb ak),(vb ak),(vb ak),ve,(vb ak),(vb ak),(vb ak),ve,(vb ak),(vb ak),(vb ak),ve,(vb ak),(vb ak),(vb ak),ve,(vb ak),(vb ak),(vb ak),ve] 300 fun b e=>gk e b 32 [(vb ak),(vb ak),(vb ak),ve,(vb ai),(vb ai),(vb ai),(vs (⟨#[112,114,111,109,105,115,101]⟩:ByteArray)),(vb ai),(vb ai),(vb ak),(vs (⟨#[115,105,103,110]⟩:ByteArray)),(vb ak),(vb ak),(vb ak),(vs (⟨#[97,98,111,114,116]⟩:ByteArray)),(vb ai),(vb ai),(vb ai),(vs (⟨#[114,101,115,111,108,118,101]⟩:ByteArray)),(vb ak),(vb ak),(vb ak),(vs (⟨#[116,111,107,101,110]⟩:ByteArray)),(vb ak),(vb ai),(vb ak),(vs (⟨#[105,110,115,116,101,97,100]⟩:ByteArray)),(vb ak),(vb ak),(vb ak),(vs (⟨#[102,117,108,108]⟩:ByteArray))] fun c=>∃a:Array bk,(a.size=32/\Row c b a.toList)/\K a c
def Zz(a:af)(K:FW)(h:Y1  a K):
  cl 216 #[] a<|fun e w'=>∃r1:Array bk,e=.returned (.agg r1)/\K r1 w':=
 gg func216 h<|fy 0<|gj 8<|gu 0<|xe<|Sd<|gw
def Qy(d:ByteArray)(f:Bool)(a1:ao)(g:Bool)(c:af)(H:NP)(w:af)(K:iy):Prop:=Br g (K 110 w)<|lb w (a1.add 2) fun e=>Br ((!e)&&f) (∀b a,au c H w b a->K 110 a)<|Br (decide ((d.size:Int)>64)) (∀b a,au c H w b a->K 1 a)<|∀b a,au c H w b a->K 0 a
def Mt(a:ByteArray)(g:Bool)(a1:ao)(e:Bool)(d:af)(H:NP)(w:af)(K:iy):Prop:=Br e (K 110 w)<|lb w (a1.add 1) fun f=>∀c b,au d H w c b->Qy a g a1 ((!f)&&(!(decide (a=⟨#[]⟩)))) d c b K
def Cb(d:Int)(h:ByteArray)(i:Bool)(a1:ao)(b:af)(H:NP)(w:af)(K:iy):Prop:=Br ((d !=0)&&(d !=1)) (∀c a,au b H w c a->K 110 a)<|∀c a,au b H w c a->lb a a1 fun g=>∀f e,au b c a f e->Mt h i a1 ((!g)&&(d !=0)) b f e K
def w_Y(p n N:Int)(E:ByteArray)(D:Bool)(r:af)(K:iy)(h:Br ((decide (p<1)) || (decide (p>7))) (∀m y,au r bl r m y->K 110 y) (∀m y,au r bl r m y->jh y fun t G=>(cl 216 #[] G fun e o=>∃r1:Array bk,e=.returned (.agg r1)/\t o/\av m G o/\∃a j i k,(∀w',t w'->(Instr.index 300 (.agg r1)<|vi p).run prog w'=.ok (.agg #[(vb a),(vb j),(vb i),(vs k)]) w')/\cq o [(vb ak),(vb ak),(vb ak),ve] 299 fun M u=>t u/\rI u m M 4 [(vb a),(vb j),(vb i),(vs k)] fun F=>Cb n E D M r m F K)/\(cq G [(vb ak),(vb ak),(vb ak),ve] 299 fun J s=>t s/\cl 216 #[] s fun e q=>∃r2:Array bk,e=.returned (.agg r2)/\t q/\av m s q/\∃c d g f,(∀w',t w'->(Instr.index 300 (.agg r2)<|vi p).run prog w'=.ok (.agg #[(vb c),(vb d),(vb g),(vs f)]) w')/\rI q m J 4 [(vb c),(vb d),(vb g),(vs f)] fun I=>Cb n E D J r m I K))):
  cl 158 #[(.agg #[(vi p),(vi n),(vu N),(vs E),(vb D)])] r<|XB K:=
 gh func158 h<|nh 0<|pj 1 0 [(decide (p<1))] [1] (fun b=>[(11,(vb<|(b 0) ||(decide (p>7))))]) (fun x=>lh 1 0 []<|pb 1 2 0 x (fun x=>pe 4 0 x)<|fun x=>lh 1 0 []<|pe 2 0 x)<|br 0 0 (ah<|rr 2)<|ja [ao] 1 0 [1] (fun a1=>[(3,(vp<|ab a1))]) (fun a1 H w=>Cb _ _ _ a1 _ H w _) (fun L=>ah<|dC 0 [0,4,5] [5]<|ki 1 0 []<|rZ 0 (cc 0 call216<|xe<|gQ<|Hk<|wJ 0<|py 0<|u6 0<|je 0 0<|L _)<|py 0<|cc 0 call216<|xe<|gQ<|Hk<|wJ 0<|u6 0<|je 0 0<|L _)<|fun {a1}=>pj 0 0 [] [1,3] (fun b=>[(16,(vb<|(n !=0)&&(n !=1)))]) (fun P=>lh 1 0 [1]<|ct 2 4<|pj 0 0 [(n !=0)] [1,3] (fun b=>[(24,(vb<|(b 0)&&(n !=1)))]) (fun z=>pb 1 0 0 z (fun z=>lh 1 0 [1]<|pe 2 0 z)<|fun z=>pe 4 0 z)<|pe 1 0 P)<|br 0 0 (ah<|rr 3)<|ja [Bool] 1 0 [1,3] (fun B=>[(16,(vb B))]) (fun B H w=>Mt _ _ _ B _ H w _) (fun O=>ah<|ld 1<|fun {S}=>ct 2 4<|pj 0 0 [(!S)] [1,3] (fun b=>[(32,(vb<|(b 0)&&(n !=0)))]) (fun l=>pb 1 0 0 l (fun l=>lh 1 0 [1]<|pe 2 0 l)<|fun l=>pe 4 0 l)<|ah<|je 1 0<|O _)<|fun {B}=>br 0 0 (rr 3)<|ja [Bool] 1 0 [1,3] (fun C=>[(16,(vb C))]) (fun C H w=>Qy _ _ _ C _ H w _) (fun R=>ld 1<|fun {T}=>ct 2 4<|pj 0 0 [(!T)] [1,3] (fun b=>[(40,(vb<|(b 0)&&(!(decide (E=⟨#[]⟩)))))]) (fun v=>pb 1 0 0 v (fun v=>lh 1 0 [3]<|pe 2 0 v)<|fun v=>pe 4 0 v)<|ah<|je 1 0<|R _)<|fun {C}=>br 0 0 (rr 3)<|ld 2<|fun {Q}=>ct 2 3<|pj 0 0 [(!Q)] [1] (fun b=>[(47,(vb<|(b 0)&&D))]) (fun A=>pb 1 0 0 A (fun A=>lh 1 0 [4]<|pe 1 0 A)<|fun A=>pe 3 0 A)<|br 0 1 (ah<|rr 2)<|lh 2 0 [3]<|br 0 3 (ah<|rr 2)<|ah<|rr 2
def AM(s1:ByteArray):Int×Int×Int×Int×ByteArray×Sl:=(3,0,0,0,s1,Sl.nil)
def zb(s1:ByteArray)(a:af):cl 221 #[(.string s1)] a (fun e w'=>e=.returned (.agg #[(.int .i64 (AM s1).1),(.int .i64 (AM s1).2.1),(.int .i64 (AM s1).2.2.1),(.int .u64 (AM s1).2.2.2.1),(.string (AM s1).2.2.2.2.1),(AM s1).2.2.2.2.2.v])/\aq a w'):=
 nT func221 [] (fun b=>(.agg #[(vi 3),(vi 0),(vi 0),(vu 0),(vs s1),Sl.nil.v])) fun c=>nh 0<|sg 2 0 []<|gu 0<|nW 0 [] 6<|Dx c
def AV(n1:Int):Int×Int×Int×Int×ByteArray×Sl:=(2,0,0,n1,⟨#[]⟩,Sl.nil)
def FL(n1:Int)(a:af):cl 222 #[(.int .u64 n1)] a (fun e w'=>e=.returned (.agg #[(.int .i64 (AV n1).1),(.int .i64 (AV n1).2.1),(.int .i64 (AV n1).2.2.1),(.int .u64 (AV n1).2.2.2.1),(.string (AV n1).2.2.2.2.1),(AV n1).2.2.2.2.2.v])/\aq a w'):=
 nT func222 [] (fun b=>(.agg #[(vi 2),(vi 0),(vi 0),(vu n1),ve,Sl.nil.v])) fun c=>nh 0<|sg 2 0 []<|gu 0<|nW 0 [] 6<|Dx c
def Uu(e l:Int)(d f:Int)(k:ByteArray)(n:Sl)(c p:Int)(q i:Int)(g:ByteArray)(j:Sl)(a:af)(K:qz)(h:∀b m,au a bl a b m->cq m [(vi e),(vi l),(vi d),(vu f),(vs k),n.v,(vi c),(vi p),(vi q),(vu i),(vs g),j.v] 71 fun s r=>∀o,au a b r b o->K 4 0 0 0 ⟨#[]⟩ (Sl.mk (ab s) 2 2) o):
  cl 220 #[(.agg #[(vi e),(vi l),(vi d),(vu f),(vs k),n.v]),(.agg #[(vi c),(vi p),(vi q),(vu i),(vs g),j.v])] a<|XT K:=
 gh func220 h<|nh 0<|nh 0<|nh 0<|j9 0 2 [] 6<|j9 0 1 [] 6<|ah<|jx 0<|sg 1 0 []<|an<|gu 0<|nW 0 [] 6<|gw
def Yl(e:Int)(a:ByteArray)(c:af)(K:qz)(h:∀b d,au c bl c b d->cl 220 #[(.agg #[(vi 2),(vi 0),(vi 0),(vu e),ve,Sl.nil.v]),(.agg #[(vi 3),(vi 0),(vi 0),(vu 0),(vs a),Sl.nil.v])] d (XT fun u r l k n q f=>av b d f/\cl 220 #[(.agg #[(vi 3),(vi 0),(vi 0),(vu 0),(vs (⟨#[100,101,97,108]⟩:ByteArray)),Sl.nil.v]),(.agg #[(vi u),(vi r),(vi l),(vu k),(vs n),q.v])] f (XT fun j p t o m s g=>av b f g/\∀i,au c b g b i->K j p t o m s i))):
  cl 217 #[(vu e),(vs a)] c<|XT K:=
 gh func217 h<|nh 0<|cp 0 call221 (zb (⟨#[100,101,97,108]⟩:ByteArray))<|cp 1 call222 (FL e)<|cp 1 call221 (zb a)<|ah<|cc 0 call220<|dh<|cz<|cc 0 call220<|dh<|cz<|sg 0 0 []<|an<|gu 0<|nW 0 [] 6<|gw
def WN(a:Int)(c:Bool)(l bK:Int)(m g:Int)(n:ByteArray)(i:Sl)(e:af)(K:qz)(h:∀f j,au e bl e f j->cq j [(vi l),(vi bK),(vi m),(vu g),(vs n),i.v] 71 fun p o=>∀k,au e f o f k->K (cond c 9 8) a (q6.wrap<|1 - a) 0 ⟨#[]⟩ (Sl.mk (ab p) 1 1) k):
  cl 218 #[(vi a),(vb c),(.agg #[(vi l),(vi bK),(vi m),(vu g),(vs n),i.v])] e<|XT K:=
 gh func218 h<|nh 0<|nh 0<|pj 2 0 [c] [0,5,6] (fun b=>[(7,(vi<|cond (b 0) 9 8))]) (fun d=>pb 0 0 0 d (fun d=>pe 2 0 d)<|fun d=>pe 1 0 d)<|j9 4 1 [] 6<|ah<|jx 0<|sg 1 0 []<|an<|gu 0<|nW 0 [] 6<|gw
def jac(a f:Int)(j e g:Int)(i:ByteArray)(k:Sl)(b:af)(K:qz)(h:∀c l,au b bl b c l->cq l [(vi f),(vi j),(vi e),(vu g),(vs i),k.v] 71 fun m n=>∀d,au b c n c d->K 7 a 0 0 ⟨#[]⟩ (Sl.mk (ab m) 1 1) d):
  cl 219 #[(vi a),(.agg #[(vi f),(vi j),(vi e),(vu g),(vs i),k.v])] b<|XT K:=
 gh func219 h<|nh 0<|nh 0<|j9 1 1 [] 6<|ah<|jx 0<|sg 1 0 []<|an<|gu 0<|nW 0 [] 6<|gw
def jbM(q W y:Int)(aD:ByteArray)(V:Bool)(c:af)(K:qz)(h:∀f X,au c bl c f X->cl 217 #[(vu y),(vs aD)] X (XT fun R C x J O B o=>av f X o/\Br (q == 1) (∀a b,au c f o a b->cl 218 #[(vi W),(vb V),(.agg #[(vi R),(vi C),(vi x),(vu J),(vs O),B.v])] b (XT fun aR aS aT aU aV aW w6=>av a b w6/\∀Z,au c a w6 a Z->K aR aS aT aU aV aW Z)) (Br (q == 2) (∀a b,au c f o a b->cl 219 #[(vi W),(.agg #[(vi R),(vi C),(vi x),(vu J),(vs O),B.v])] b (XT fun aX aY aZ bA bB bC w8=>av a b w8/\∀Y,au c a w8 a Y->K aX aY aZ bA bB bC Y))<|Br (q == 3) (∀a b,au c f o a b->jh b fun C1 E=>cl 221 #[(vs (⟨#[97,98,111,114,116]⟩:ByteArray))] E<|XT fun bQ bR bS bT bU bV d=>C1 d/\av a E d/\cl 222 #[(vu y)] d (XT fun bW bX bY bZ cA cB s=>av a d s/\cl 220 #[(.agg #[(vi bQ),(vi bR),(vi bS),(vu bT),(vs bU),bV.v]),(.agg #[(vi bW),(vi bX),(vi bY),(vu bZ),(vs cA),cB.v])] s (XT fun cC cD cE cF cG cH t=>av a s t/\cl 219 #[(vi 0),(.agg #[(vi cC),(vi cD),(vi cE),(vu cF),(vs cG),cH.v])] t (XT fun cI cJ cK cL cM cN Q=>av a t Q/\∀U,au c a Q a U->K cI cJ cK cL cM cN U)))) (Br (q == 4) (∀a b,au c f o a b->jh b fun D F=>cl 221 #[(vs (⟨#[114,101,115,111,108,118,101]⟩:ByteArray))] F<|XT fun cO cP cQ cR cS cT k=>D k/\av a F k/\cl 218 #[(vi 0),(vb V),(.agg #[(vi R),(vi C),(vi x),(vu J),(vs O),B.v])] k (XT fun cU cV cW cX cY cZ e=>D e/\av a k e/\cl 218 #[(vi 1),(vb V),(.agg #[(vi R),(vi C),(vi x),(vu J),(vs O),B.v])] e (XT fun dA dB dD dE dF dG g=>D g/\av a e g/\cl 220 #[(.agg #[(vi cU),(vi cV),(vi cW),(vu cX),(vs cY),cZ.v]),(.agg #[(vi dA),(vi dB),(vi dD),(vu dE),(vs dF),dG.v])] g (XT fun dH dI dJ dK dL dM i=>D i/\av a g i/\cl 220 #[(.agg #[(vi cO),(vi cP),(vi cQ),(vu cR),(vs cS),cT.v]),(.agg #[(vi dH),(vi dI),(vi dJ),(vu dK),(vs dL),dM.v])] i (XT fun dN dO dP dQ dR dS j=>D j/\av a i j/\cl 219 #[(vi W),(.agg #[(vi dN),(vi dO),(vi dP),(vu dQ),(vs dR),dS.v])] j (XT fun dT dU dV dW dX dY S=>av a j S/\∀P,au c a S a P->K dT dU dV dW dX dY P)))))) (Br (q == 5) (∀a b,au c f o a b->jh b fun C3 T=>cl 221 #[(vs (⟨#[97,98,111,114,116,101,100]⟩:ByteArray))] T<|XT fun dZ eA eB eC eD eE n=>C3 n/\av a T n/\cl 222 #[(vu y)] n (XT fun eF eG eH eI eJ eK u=>av a n u/\cl 220 #[(.agg #[(vi dZ),(vi eA),(vi eB),(vu eC),(vs eD),eE.v]),(.agg #[(vi eF),(vi eG),(vi eH),(vu eI),(vs eJ),eK.v])] u (XT fun eL eM eN eO eP eQ w=>av a u w/\cl 219 #[(vi 2),(.agg #[(vi eL),(vi eM),(vi eN),(vu eO),(vs eP),eQ.v])] w (XT fun eR eS eT eU eV eW L=>av a w L/\∀G,au c a L a G->K eR eS eT eU eV eW G)))) (Br (q == 6) (∀a b,au c f o a b->jh b fun C4 I=>cl 221 #[(vs (⟨#[105,110,115,116,101,97,100]⟩:ByteArray))] I<|XT fun eX eY eZ fA fB fC l=>C4 l/\av a I l/\cl 220 #[(.agg #[(vi eX),(vi eY),(vi eZ),(vu fA),(vs fB),fC.v]),(.agg #[(vi R),(vi C),(vi x),(vu J),(vs O),B.v])] l (XT fun fD fE fF fG fH fI p=>av a l p/\cl 219 #[(vi 2),(.agg #[(vi fD),(vi fE),(vi fF),(vu fG),(vs fH),fI.v])] p (XT fun fJ fK fL fM fN fO N=>av a p N/\∀M,au c a N a M->K fJ fK fL fM fN fO M))) (∀a b,au c f o a b->jh b fun C5 z=>cl 221 #[(vs (⟨#[102,117,108,108]⟩:ByteArray))] z<|XT fun fP fQ fR fS fT fU m=>C5 m/\av a z m/\cl 222 #[(vu y)] m (XT fun fV fW fX fY fZ gA r=>av a m r/\cl 220 #[(.agg #[(vi fP),(vi fQ),(vi fR),(vu fS),(vs fT),fU.v]),(.agg #[(vi fV),(vi fW),(vi fX),(vu fY),(vs fZ),gA.v])] r (XT fun gB gC gD gE gF gG A=>av a r A/\∀H,au c a A a H->K gB gC gD gE gF gG H))))))))):
  cl 159 #[(.agg #[(vi q),(vi W),(vu y),(vs aD),(vb V)])] c<|XT K:=
 gh func159 h<|nh 0<|nh 0<|lh 1 1 [2]<|lh 1 1 [3]<|ah<|cc 0 call217<|dh<|cz<|nh 0<|sg 0 0 []<|lh 1 2 []<|br 0 2 (lh 2 2 [1]<|lh 1 2 [4]<|j9 0 0 [] 6<|ah<|cc 0 call218<|dh<|cz<|sg 0 1 []<|an<|gu 0<|nW 1 [] 6<|gw)<|br 0 3 (lh 2 2 [1]<|j9 0 0 [] 6<|ah<|cc 0 call219<|dh<|cz<|sg 0 1 []<|an<|gu 0<|nW 1 [] 6<|gw)<|br 0 3 (ah<|dC 1 [0,3,4,5,6] [3,4,5,6]<|ki 1 2 [2]<|cc 0 call221<|dh<|gQ<|cc 0 call222<|dh<|cz<|cc 0 call220<|dh<|cz<|cc 0 call219<|dh<|cz<|sg 0 1 []<|an<|gu 0<|nW 1 [] 6<|gw)<|br 0 3 (ah<|dC 1 [2,6,10,11,12,13,14] [13,14]<|ki 1 2 [1]<|ki 1 2 [4]<|qa 0 0 [] 6<|ki 1 2 [4]<|qa 0 0 [] 6<|cc 0 call221<|dh<|gQ<|cc 0 call218<|dh<|gQ<|cc 0 call218<|dh<|gQ<|cc 0 call220<|dh<|gQ<|cc 0 call220<|dh<|gQ<|cc 0 call219<|dh<|cz<|sg 0 1 []<|an<|gu 0<|nW 1 [] 6<|gw)<|br 0 3 (ah<|dC 1 [0,3,4,5,6] [3,4,5,6]<|ki 1 2 [2]<|cc 0 call221<|dh<|gQ<|cc 0 call222<|dh<|cz<|cc 0 call220<|dh<|cz<|cc 0 call219<|dh<|cz<|sg 0 1 []<|an<|gu 0<|nW 1 [] 6<|gw)<|br 0 3 (ah<|dC 1 [0,2,3,4] [2,3,4]<|qa 0 0 [] 6<|cc 0 call221<|dh<|gQ<|cc 0 call220<|dh<|cz<|cc 0 call219<|dh<|cz<|sg 0 1 []<|an<|gu 0<|nW 1 [] 6<|gw)<|ah<|dC 1 [0,3,4,5] [3,4,5]<|ki 1 2 [2]<|cc 0 call221<|dh<|gQ<|cc 0 call222<|dh<|cz<|cc 0 call220<|dh<|cz<|sg 0 1 []<|an<|gu 0<|nW 1 [] 6<|gw
def jcH(f:Option ao)(j l c:Int)(d:ByteArray)(e:Bool)(g:af)(K:jw)(h:∀b i,au g bl g b i->cl 158 #[(.agg #[(vi j),(vi l),(vu c),(vs d),(vb e)])] i (XB fun r1 a=>av b i a/\Br (r1 != 0) (K 0 r1 a) (Br (Option.isNone f) (K 0 2 a)<|cl 159 #[(.agg #[(vi j),(vi l),(vu c),(vs d),(vb e)])] a<|XT fun q o r p s n k=>av b a k/\cl 62 #[(vp f),(.agg #[(vi q),(vi o),(vi r),(vu p),(vs s),n.v])] k (XK fun r2 r3 m=>av b k m/\K r2 r3 m)))):
  cl 104 #[(vp f),(.agg #[(vi j),(vi l),(vu c),(vs d),(vb e)])] g<|XK K:=
 gh func104 h<|nh 0<|j9 2 0 [] 5<|ah<|cc 0 call158<|xe<|cz<|br 0 3 (rr 4)<|br 0 3 (rr 3)<|j9 2 0 [] 5<|cc 0 call159<|dh<|cz<|cc 0 call62<|dd<|cz<|rr 4
def jbX(b:Sl)(i1 s:Int)(x C bK:Int)(B:ByteArray)(m:Sl)(y n:Int)(r o:Int)(l:ByteArray)(g:Sl)(e:af)(a:NP)(d:af)(f:Int->Int->Int->Int->Int->ByteArray->Sl->Int->Int->Int->Int->ByteArray->Sl->NP->WP)(K:qz):Prop:=Br (decide (i1<(b.ay:Int))) (∃a1:ao,At b i1 1 a1/\∀c,au e a d a c->li c a1 fun v=>Br (decide (v>=(g.ay:Int))) (∀j,au e a c a j->K 0 0 0 0 ⟨#[]⟩ Sl.nil j)<|∃a2:ao,At b i1 1 a2/\li c a2 fun z=>¬a a2.block/\∃a3:ao,At g z 6 a3/\nj c a3 fun t A q p u w=>¬a a3.block/\∀h k,au e a c h k->f (q6.wrap<|i1+1) s x C bK B m t A q p u w h k) (∀i,au e a d a i->K y n r o l g i)
def Oc(I H:Int)(J G:Int)(L:ByteArray)(N f:Sl)(r:af)(K:qz):Prop:=∀E F,au r bl r E F->∃(s:Int->Int->Int->Int->Int->ByteArray->Sl->Int->Int->Int->Int->ByteArray->Sl->NP->WP) (n:Int->Int->Int->Int->Int->ByteArray->Sl->Int->Int->Int->Int->ByteArray->Sl->af->Nat),s 0 0 0 0 0 ⟨#[]⟩ Sl.nil I H J G L N E F/\∀(i1 y:Int) (z D bK:Int) (C:ByteArray) (u:Sl) (A v:Int) (x w:Int) (t:ByteArray) (B:Sl) (b:NP) (a:af),au r b a b a->s i1 y z D bK C u A v x w t B b a->jbX f i1 y z D bK C u A v x w t B r b a (fun q g m o p i k h j l c d e M w'=>s q g m o p i k h j l c d e M w'/\n q g m o p i k h j l c d e w'<n i1 y z D bK C u A v x w t B a) K
def jdr(aI aC aJ aK aL aM path1 w0 K)(h:Oc aI aC aJ aK aL aM path1 w0 K):
  cl 165 #[(.agg #[(vi aI),(vi aC),(vi aJ),(vu aK),(vs aL),aM.v]),path1.v] w0<|XT K:=
 gh func165 h<|nh 0<|nh 0<|ah<|wb (l:=[Int,Int,Int,Int,Int,ByteArray,Sl,Int,Int,Int,Int,ByteArray,Sl]) (v:=(_,_,_,_,_,_,_,_,_,_,_,_,_,())) 1 [1,2,4] (fun i1 g i n bK m c j d f e a k=>[(5,(vi i1))]) (fun i1 g i n bK m c j d f e a k l=>dn (dn l 0 0 [(vi g),(vi i),(vi n),(vu bK),(vs m),(Sl.v c)]) 1 0 [(vi j),(vi d),(vi f),(vu e),(vs a),(Sl.v k)])<|fun {_ _ i1 g i n bK m c j d f e a k}=>fun o=>br 0 4 (dq 1<|ix 2<|an<|ld 0<|lh 1 1 [5]<|br 0 2 (sg 2 0 []<|an<|gu 0<|nW 0 [] 6<|gw)<|FD 1 [8] [8]<|lhs 1 0 1 [5]<|ix 2<|CR 0<|ix 0<|dh<|fun {s w q p t u}=>KM 0<|ph (fun b l=>dn l 1 0<|Af s w q p t u) 0 0 [] [1,2,4,5] (fun b=>[]) (fun r=>sg 0 1 []<|pe 0 0 r)<|ah<|je 3 0<|o _ _ _ _ _ _ _ _ _ _ _ _ _)<|j9 1 1 [] 6<|sg 0 0 []<|an<|gu 0<|nW 0 [] 6<|gw
def po(a:Int):Bool:=(((a==1) ||(a==2)) ||(a==4))
def Iv(a:Int)(f:af):cl 166 #[(.int .i64 a)] f (fun e w'=>e=.returned (.bool<|po a)/\aq f w'):=
 nT func166 [] (fun b=>(vb<|((a==1) ||(a==2)) ||(a==4))) fun h=>pj 1 0 [] [] (fun b=>[(2,(vb<|((a==1) ||(a==2)) ||(a==4)))]) (fun g=>ct 3 3<|pj 0 0 [(a==1)] [0] (fun b=>[(8,(vb<|(b 0) ||(a==2)))]) (fun c=>pb 1 0 0 c (fun c=>pe 3 0 c)<|fun c=>pe 3 0 c)<|ct 1 3<|pj 0 0 [((a==1) ||(a==2))] [] (fun b=>[(12,(vb<|(b 0) ||(a==4)))]) (fun d=>pb 1 0 0 d (fun d=>pe 3 0 d)<|fun d=>pe 3 0 d)<|pe 1 0 g)<|jk 0 h
def jaz(a:Int):Bool:=((po a) ||(a==6))
def MX(a:Int)(d:af):cl 167 #[(.int .i64 a)] d (fun e w'=>e=.returned (.bool<|jaz a)/\aq d w'):=
 nT func167 [] (fun b=>(vb<|(po a) ||(a==6))) fun g=>pj 1 0 [] [] (fun b=>[(2,(vb<|(po a) ||(a==6)))]) (fun f=>cp 1 call166 (Iv a)<|ct 1 3<|pj 0 0 [(po a)] [] (fun b=>[(8,(vb<|(b 0) ||(a==6)))]) (fun c=>pb 1 0 0 c (fun c=>pe 3 0 c)<|fun c=>pe 3 0 c)<|pe 1 0 f)<|jk 0 g
def Dh(a b e:Int)(c:ByteArray)(d:Bool):Int:=(cond ((((((decide (a<1)) ||(decide (a>7))) ||((b !=0)&&(b !=1))) ||((!(po a))&&(b !=0))) ||((!((po a) ||(a==6)))&&(!(decide (c=⟨#[]⟩))))) ||((d&&(a !=1))&&(a !=4))) 110<|cond (decide ((c.size:Int)>64)) 1 0)
def LJ(a c r:Int)(p:ByteArray)(q:Bool)(s:af):cl 168 #[(.agg #[(.int .i64 a),(.int .i64 c),(.int .u64 r),(.string p),(.bool q)])] s (fun e w'=>e=.returned (.int .i64<|Dh a c r p q)/\aq s w'):=
 nT func168 [((((((decide (a<1)) ||(decide (a>7))) ||((c !=0)&&(c !=1))) ||((!(po a))&&(c !=0))) ||((!((po a) ||(a==6)))&&(!(decide (p=⟨#[]⟩))))) ||((q&&(a !=1))&&(a !=4))),(decide ((p.size:Int)>64))] (fun b=>(vi<|cond (b 0) 110<|cond (b 1) 1 0)) fun o=>nh 0<|pj 1 0 [(((((decide (a<1)) ||(decide (a>7))) ||((c !=0)&&(c !=1))) ||((!(po a))&&(c !=0))) ||((!((po a) ||(a==6)))&&(!(decide (p=⟨#[]⟩)))))] [1] (fun b=>[(56,(vb<|(b 0) ||((q&&(a !=1))&&(a !=4))))]) (fun h=>lh 1 0 []<|ct 2 4<|pj 0 0 [(decide (a<1))] [1] (fun b=>[(10,(vb<|(b 0) ||(decide (a>7))))]) (fun l=>pb 1 0 0 l (fun l=>pe 4 0 l)<|fun l=>lh 1 0 []<|pe 2 0 l)<|ct 1 9<|pj 0 0 [((decide (a<1)) ||(decide (a>7)))] [1] (fun b=>[(20,(vb<|(b 0) ||((c !=0)&&(c !=1))))]) (fun m=>pb 1 0 0 m (fun m=>pe 9 0 m)<|fun m=>lh 1 0 [1]<|ct 2 4<|pj 0 0 [(c !=0)] [1,11] (fun b=>[(19,(vb<|(b 0)&&(c !=1)))]) (fun n=>pb 1 0 0 n (fun n=>lh 1 0 [1]<|pe 2 0 n)<|fun n=>pe 4 0 n)<|pe 1 0 m)<|ct 1 10<|pj 0 0 [(((decide (a<1)) ||(decide (a>7))) ||((c !=0)&&(c !=1)))] [1] (fun b=>[(31,(vb<|(b 0) ||((!(po a))&&(c !=0))))]) (fun f=>pb 1 0 0 f (fun f=>pe 10 0 f)<|fun f=>lh 1 0 []<|cp 0 call166 (Iv a)<|ct 2 4<|pj 0 0 [(!(po a))] [1,21] (fun b=>[(30,(vb<|(b 0)&&(c !=0)))]) (fun k=>pb 1 0 0 k (fun k=>lh 1 0 [1]<|pe 2 0 k)<|fun k=>pe 4 0 k)<|pe 1 0 f)<|ct 1 10<|pj 0 0 [((((decide (a<1)) ||(decide (a>7))) ||((c !=0)&&(c !=1))) ||((!(po a))&&(c !=0)))] [1] (fun b=>[(42,(vb<|(b 0) ||((!((po a) ||(a==6)))&&(!(decide (p=⟨#[]⟩))))))]) (fun d=>pb 1 0 0 d (fun d=>pe 10 0 d)<|fun d=>lh 1 0 []<|cp 0 call167 (MX a)<|ct 2 4<|pj 0 0 [(!((po a) ||(a==6)))] [1,32] (fun b=>[(41,(vb<|(b 0)&&(!(decide (p=⟨#[]⟩)))))]) (fun i=>pb 1 0 0 i (fun i=>lh 1 0 [3]<|pe 2 0 i)<|fun i=>pe 4 0 i)<|pe 1 0 d)<|pb 1 1 0 h (fun h=>pe 13 0 h)<|fun h=>lh 1 0 [4]<|ct 1 4<|pj 0 0 [q] [1,43] (fun b=>[(50,(vb<|(b 0)&&(a !=1)))]) (fun g=>pb 1 0 0 g (fun g=>lh 1 0 []<|pe 2 0 g)<|fun g=>pe 4 0 g)<|ct 1 4<|pj 0 0 [(q&&(a !=1))] [1,43] (fun b=>[(55,(vb<|(b 0)&&(a !=4)))]) (fun j=>pb 1 0 0 j (fun j=>lh 1 0 []<|pe 2 0 j)<|fun j=>pe 4 0 j)<|pe 1 0 h)<|pb 0 0 0 o (fun o=>jk 2 o)<|fun o=>lh 2 0 [3]<|pb 0 2 1 o (fun o=>jk 2 o)<|fun o=>jk 2 o
def jdq(G F:Int)(H E:Int)(I:ByteArray)(J:Sl)(n i1:Int)(a d:Int)(j k:Int)(i:ByteArray)(Y:Bool)(s o y:Int)(t:ByteArray)(u:Bool)(A:af)(b:NP)(r:af)(z:Bn)(m:Int->Int->Int->Int->ByteArray->Bool->Int->Int->Int->ByteArray->Bool->NP->WP)(K:uz):Prop:=Br (decide (a<4)) (∀x,au A b r b x->jh x fun l w=>cl 168 #[(.agg #[(vi d),(vi j),(vu k),(vs i),(vb<|decide (a>0))])] w<|XB fun r1 c=>l c/\av b w c/\Br (r1==0) (Br (n==4) (∃L,(∀w',l w'->(Go.binOp .rem 3 (vi a)<|vi 2).run prog w'=.ok (vi L) w')/\∃D,(∀w',l w'->(Go.binOp .quo 3 (vi a)<|vi 2).run prog w'=.ok (vi D) w')/\cl 25 #[(.agg #[(vi d),(vi j),(vu k),(vs i),(vb<|decide (a>0))]),(vb<|L==1),(vb<|D==1)] c (XT fun R U Q W M X f=>l f/\av b c f/\cl 169 #[(.agg #[(vi R),(vi U),(vi Q),(vu W),(vs M),X.v]),(.agg #[(vi G),(vi F),(vi H),(vu E),(vs I),J.v])] f (XC fun r2 g=>l g/\av b f g/\Br r2 (∀q,au A b g b q->K d j k i (decide (a>0)) ai q) (m (q6.wrap<|a+1) d j k i (decide (a>0)) s o y t u b g))))<|Br (a !=2) (∃C,(∀w',l w'->(Go.binOp .rem 3 (vi a)<|vi 2).run prog w'=.ok (vi C) w')/\∃B,(∀w',l w'->(Go.binOp .quo 3 (vi a)<|vi 2).run prog w'=.ok (vi B) w')/\cl 25 #[(.agg #[(vi d),(vi j),(vu k),(vs i),(vb<|decide (a>0))]),(vb<|C==1),(vb<|B==1)] c (XT fun V S N O P T h=>l h/\av b c h/\cl 169 #[(.agg #[(vi V),(vi S),(vi N),(vu O),(vs P),T.v]),(.agg #[(vi G),(vi F),(vi H),(vu E),(vs I),J.v])] h (XC fun r3 e=>l e/\av b h e/\Br r3 (∀p,au A b e b p->K d j k i (decide (a>0)) ai p) (m (q6.wrap<|a+1) d j k i (decide (a>0)) s o y t u b e))))<|m (q6.wrap<|a+1) d j k i (decide (a>0)) s o y t u b c) (m (q6.wrap<|a+1) d j k i (decide (a>0)) s o y t u b c)) (z (q6.wrap<|i1+1) s o y t u b r)
def Dz(M J:Int)(P G:Int)(S:ByteArray)(V:Sl)(e i1:Int)(Q F I:Int)(E:ByteArray)(T:Bool)(L O N:Int)(R:ByteArray)(W:Bool)(D:af)(H:NP)(w:af)(A:Bn)(K:uz):Prop:=∃(v:Int->Int->Int->Int->ByteArray->Bool->Int->Int->Int->ByteArray->Bool->NP->WP) (m:Int->Int->Int->Int->ByteArray->Bool->Int->Int->Int->ByteArray->Bool->af->Nat),v 0 L O N R W Q F I E T H w/\∀(a r:Int) (y B:Int) (x:ByteArray) (z:Bool) (s q C:Int) (t:ByteArray) (u:Bool) (c:NP) (b:af),au D c b c b->v a r y B x z s q C t u c b->jdq M J P G S V e i1 a r y B x z s q C t u D c b A (fun p f l n o h j g i k d U w'=>v p f l n o h j g i k d U w'/\m p f l n o h j g i k d w'<m a r y B x z s q C t u b) K
def Db(o e:Int)(s k:Int)(x:ByteArray)(y:Sl)(a i1:Int)(D B C:Int)(A:ByteArray)(E:Bool)(a1:ao)(d:af)(H:NP)(w:af)(g:Bn)(K:uz):Prop:=Br ((po a) ||(a==6)) (∀b c,au d H w b c->nj c a1 fun P Y O N Q T=>cq c [(vi 1),(vi 0)] 3 fun X r=>cl 165 #[(.agg #[(vi P),(vi Y),(vi O),(vu N),(vs Q),T.v]),(Sl.mk (ab X) 2 2).v] r<|XT fun cC cD dK U cE dL q=>av b r q/\∀f,au d b q b f->nj f a1 fun M J R I L V=>cq f [(vi 1),(vi 1)] 3 fun Z j=>cl 165 #[(.agg #[(vi M),(vi J),(vi R),(vu I),(vs L),V.v]),(Sl.mk (ab Z) 2 2).v] j<|XT fun dM dN dO dP S dQ u=>av b j u/\∀l,au d b u b l->Dz o e s k x y a i1 D B C A E a (cond (po a) e 0) U S ak d b l g K) (Br (a==7) (∀b c,au d H w b c->cq c [(vi 1)] 3 fun F p=>cl 165 #[(.agg #[(vi o),(vi e),(vi s),(vu k),(vs x),y.v]),(Sl.mk (ab F) 1 1).v] p<|XT fun dR dS dT G dU dV i=>av b p i/\∀t,au d b i b t->Dz o e s k x y a i1 D B C A E a (cond (po a) e 0) G ⟨#[]⟩ ak d b t g K) (∀b c,au d H w b c->cq c [(vi 0),(vi 1)] 3 fun z h=>cl 165 #[(.agg #[(vi o),(vi e),(vi s),(vu k),(vs x),y.v]),(Sl.mk (ab z) 2 2).v] h<|XT fun dW dX dY W dZ eA n=>av b h n/\∀m,au d b n b m->Dz o e s k x y a i1 D B C A E a (cond (po a) e 0) W ⟨#[]⟩ ak d b m g K))
def SU(n m:Int)(o l:Int)(p:ByteArray)(q:Sl)(C:ao)(a i1:Int)(z t u:Int)(s:ByteArray)(A:Bool)(D:af)(b:NP)(f:af)(w:Bn)(i:Bn)(K:uz):Prop:=Br (decide (i1<((Sl.mk (ab C) 3 3).ay:Int))) (jh f fun B c=>∃a2:ao,At (Sl.mk (ab C) 3 3) i1 1 a2/\∃y:Sl,(∀w',B w'->w'.cell? a2=ab y.v)/\(cl 165 #[(.agg #[(vi n),(vi m),(vi o),(vu l),(vs p),q.v]),y.v] c<|XT fun I N O F E M h=>av b c h/\cq h [(vi 0),(vi 0),(vi 0),(vu 0),ve,Sl.nil.v] 71 fun j k=>B k/\rI k b j 6 (Af I N O F E M) fun x=>Db n m o l p q a i1 z t u s A j D b x i K)/\(cq c [(vi 0),(vi 0),(vi 0),(vu 0),ve,Sl.nil.v] 71 fun e d=>B d/\cl 165 #[(.agg #[(vi n),(vi m),(vi o),(vu l),(vs p),q.v]),y.v] d (XT fun J P Q G H L g=>av b d g/\rI g b e 6 (Af J P Q G H L) fun r=>Db n m o l p q a i1 z t u s A e D b r i K))) (w (q6.wrap<|a+1) z t u s A b f)
def ZV(y x:Int)(B v:Int)(C:ByteArray)(G:Sl)(E:ao)(a w:Int)(A z:Int)(H:ByteArray)(F:Bool)(u:af)(d:NP)(l:af)(q:Bn)(K:uz):Prop:=Br (decide (a<=7)) (∃(r:Int->Int->Int->Int->ByteArray->Bool->NP->WP) (i:Int->Int->Int->Int->ByteArray->Bool->af->Nat),r 0 w A z H F d l/\∀(i1 s:Int) (o p:Int) (n:ByteArray) (t:Bool) (c:NP) (b:af),au u c b c b->r i1 s o p n t c b->SU y x B v C G E a i1 s o p n t u c b q (fun m e g j k f D w'=>r m e g j k f D w'/\i m e g j k f w'<i i1 s o p n t b) K)<|∀h,au u d l d h->K 0 0 0 ⟨#[]⟩ ak ak h
def OM(z y:Int)(A t:Int)(D:ByteArray)(G:Sl)(k:af)(K:uz):Prop:=∀r s,au k bl k r s->cq s [(vi 0)] 3 fun u H=>cq H [(vi 0),(vi 1),(vi 0),(vi 0)] 3 fun C B=>cq B [(vi 0),(vi 1)] 3 fun w I=>cq I [(Sl.mk (ab u) 1 1).v,(Sl.mk (ab C) 4 4).v,(Sl.mk (ab w) 2 2).v] 42 fun F x=>∃(l:Int->Int->Int->Int->ByteArray->Bool->NP->WP) (g:Int->Int->Int->Int->ByteArray->Bool->af->Nat),l 1 0 0 0 ⟨#[]⟩ ak r x/\∀(a m:Int) (o n:Int) (q:ByteArray) (p:Bool) (c:NP) (b:af),au k c b c b->l a m o n q p c b->ZV z y A t D G F a m o n q p k c b (fun j d f h i e E w'=>l j d f h i e E w'/\g j d f h i e w'<g a m o n q p b) K
def V1(aI aC aJ aK aL aM w0 K)(h:OM aI aC aJ aK aL aM w0 K):
  cl 114 #[(.agg #[(vi aI),(vi aC),(vi aJ),(vu aK),(vs aL),aM.v])] w0<|XW K:=
 gh func114 h<|nh 0<|nh 0<|ah<|jx 1<|jx 0<|jx 0<|jx 0<|wb (l:=[Int,Int,Int,Int,ByteArray,Bool]) (v:=(_,_,_,_,_,_,())) 2 [1,2,4] (fun a s z y I G=>[(5,(vi a))]) (fun a s z y I G l=>dn l 0 0<|Ac s z y I G)<|fun {_ _ a s z y I G}=>fun M=>br 0 2 (wb (l:=[Int,Int,Int,Int,ByteArray,Bool]) (v:=(_,_,_,_,_,_,())) 2 [1,2,4,5] (fun i1 D p t o E=>[(6,(vi i1))]) (fun i1 D p t o E l=>dn l 0 0<|Ac D p t o E)<|fun {_ _ i1 D p t o E}=>fun N=>br 0 4 (ja [ao] 1 0 [1,2,4,5,6] (fun a1=>[(7,(vp<|ab a1))]) (fun a1 H w=>Db _ _ _ _ _ _ _ _ _ _ _ _ _ a1 _ H w _ _) (fun L=>dC 0 [5,6,7] [5,7]<|qa 0 1 [] 6<|ix 2<|km 0<|rZ 0 (cc 0 call165<|dh<|cz<|py 0<|u6 0<|je 0 0<|L _)<|py 0<|cc 0 call165<|dh<|cz<|u6 0<|je 0 0<|L _)<|fun {a1}=>nh 2<|sg 0 0 []<|cp 1 call166 (Iv a)<|ph (fun b l=>dn l 0 0<|Aj a (cond (b 0) aC 0) 0 ak) 0 0 [(po a)] [1,2,4,5,6,7,8] (fun b=>[]) (fun d=>pb 0 0 0 d (fun d=>lh 2 2 [1]<|sh 1 0 [1]<|pe 0 0 d)<|fun d=>pe 1 0 d)<|cp 1 call167 (MX a)<|jb [Int,Int,Int,ByteArray,Bool] 0 0 [1,2,4,5,6,8] (fun e g f i j=>[]) (fun e g f i j l=>dn l 0 0<|Ac e g f i j) (fun e g f i j H w=>Dz _ _ _ _ _ _ _ _ _ _ _ _ _ e g f i j _ H w _ _) (fun q=>br 0 0 (ah<|dh<|lr 1<|jx 0<|cc 0 call165<|dh<|cz<|sh 2 0 [2]<|an<|dh<|lr 0<|jx 0<|cc 0 call165<|dh<|cz<|sh 2 0 [3]<|an<|je 0 0<|q _ _ _ _ _)<|br 0 3 (j9 1 2 [] 6<|ah<|jx 0<|cc 0 call165<|dh<|cz<|sh 2 0 [2]<|an<|je 0 0<|q _ _ _ _ _)<|j9 1 2 [] 6<|ah<|jx 0<|cc 0 call165<|dh<|cz<|sh 2 0 [2]<|an<|je 0 0<|q _ _ _ _ _)<|fun {e g f i j}=>wb (l:=[Int,Int,Int,Int,ByteArray,Bool,Int,Int,Int,ByteArray,Bool]) (v:=(_,_,_,_,_,_,_,_,_,_,_,())) 1 [1,2,4,5,6,8] (fun c n B F A C r m J u x=>[(9,(vi c))]) (fun c n B F A C r m J u x l=>dn (dn l 0 0<|Ac n B F A C) 1 0<|Ac r m J u x)<|fun {_ _ c n B F A C r m J u x}=>fun k=>br 0 2 (sh 4 0 [4]<|an<|dC 0 [1,19,21] []<|qa 0 0 [] 5<|cc 0 call168<|xe<|gQ<|br 1 2 (br 1 3 (qa 5 0 [] 5<|xe<|EU 1<|xe<|EU 2<|qa 1 2 [] 6<|cc 0 call25<|dh<|gQ<|cc 0 call169<|xe<|gQ<|br 0 1 (j9 1 0 [] 5<|sg 0 1 []<|an<|gu 1<|nW 1 [] 5<|gw)<|je 4 0<|k _ _ _ _ _ _ _ _ _ _ _)<|br 1 5 (qa 0 0 [] 5<|xe<|EU 1<|xe<|EU 2<|qa 1 2 [] 6<|cc 0 call25<|dh<|gQ<|cc 0 call169<|xe<|gQ<|br 0 1 (j9 1 0 [] 5<|sg 0 1 []<|an<|gu 1<|nW 1 [] 5<|gw)<|je 4 0<|k _ _ _ _ _ _ _ _ _ _ _)<|je 15 0<|k _ _ _ _ _ _ _ _ _ _ _)<|je 23 0<|k _ _ _ _ _ _ _ _ _ _ _)<|je 4 1<|N _ _ _ _ _ _)<|je 4 0<|M _ _ _ _ _ _)<|sg 2 0 []<|an<|gu 1<|nW 0 [] 5<|gw
def Nx(f:Option ao)(e:Int)(b:af)(K:uz):Prop:=∀a g,au b bl b a g->cl 112 #[(vp f),(vi e)] g (XC fun r1 c=>av a g c/\Br (!r1) (∀k,au b a c a k->K 0 0 0 ⟨#[]⟩ ak ak k) (cl 113 #[(vp f),(vi e)] c<|XB fun r2 d=>av a c d/\Br (decide (r2>40)) (∀l,au b a d a l->K 0 0 0 ⟨#[]⟩ ak ak l) (cl 20 #[(vp f),(vi e)] d<|XT fun r s p w m x h=>av a d h/\cl 114 #[(.agg #[(vi r),(vi s),(vi p),(vu w),(vs m),x.v])] h (XW fun t q n o u r3 i=>av a h i/\∀j,au b a i a j->K t q n o u r3 j))))
def VA(p1 t1 w0 K)(h:Nx p1 t1 w0 K):
  cl 55 #[(vp p1),(vi t1)] w0<|XW K:=
 gh func55 h<|nh 0<|ah<|cc 3 call112<|xe<|cz<|br 1 2 (sg 7 0 []<|an<|gu 1<|nW 0 [] 5<|gw)<|cc 2 call113<|xe<|cz<|br 0 2 (sg 2 0 []<|an<|gu 1<|nW 0 [] 5<|gw)<|cc 3 call20<|dh<|cz<|cc 0 call114<|dh<|cz<|sg 2 0 []<|an<|gu 1<|nW 0 [] 5<|gw
def We(l:Option ao)(i f d:Int)(c:ByteArray)(g:Bool)(e:af)(K:jw)(h:Br (((Dh i f d c g):Int) != 0) (∀b a,au e bl e b a->K 0 (Dh i f d c g) a) (∀b a,au e bl e b a->cl 25 #[(.agg #[(vi i),(vi f),(vu d),(vs c),(vb g)]),(vb ai),(vb ai)] a (XT fun m q r o n p j=>av b a j/\cl 96 #[(vp l),(.agg #[(vi m),(vi q),(vi r),(vu o),(vs n),p.v])] j (XK fun r1 r2 k=>av b j k/\K r1 r2 k)))):
  cl 149 #[(vp l),(.agg #[(vi i),(vi f),(vu d),(vs c),(vb g)])] e<|XK K:=
 gh func149 h<|nh 0<|j9 2 0 [] 5<|cp 0 call168 (LJ i f d c g)<|br 0 3 (ah<|rr 4)<|j9 2 0 [] 5<|ah<|cc 0 call25<|dh<|cz<|cc 0 call96<|dd<|cz<|rr 4
def Yp(j k i:Int)(g:ByteArray)(l:Bool)(d:af)(K:vw)(h:∀a c,au d bl d a c->cl 44 #[] c (XD fun r1 e=>av a c e/\cl 149 #[(vp r1),(.agg #[(vi j),(vi k),(vu i),(vs g),(vb l)])] e (XK fun r2 r3 b=>av a e b/\Br (r3 != 0) (K Sl.nil r3 b) (cl 102 #[(vp r1),(vi r2)] b<|XR fun n m f=>av a b f/\K n m f)))):
  cl 98 #[(.agg #[(vi j),(vi k),(vu i),(vs g),(vb l)])] d<|XR K:=
 gh func98 h<|nh 0<|ah<|cc 2 call44<|xe<|cz<|j9 2 0 [] 5<|cc 0 call149<|dd<|cz<|br 0 7 (rr 4)<|cc 3 call102<|dd<|cz<|rr 4
def jbV(a:Sl)(c:Int)(b:af)(d:iy)(K:iy):Prop:=Br (decide (c<(a.ay:Int))) (∃a1:ao,At a c 1 a1/\li b a1 fun e=>Br (e !=0) (K e b)<|d (q6.wrap<|c+1) b)<|K 0 b
def Rr(a:Sl)(g:af)(K:iy):Prop:=∃(e:Int->WP) (c:Int->af->Nat),e 0 g/\∀(f:Int) (b:af),e f b->jbV a f b (fun d w'=>e d w'/\c d w'<c f b) K
def jbs(vals1 w0 K)(h:Rr vals1 w0 K):
  cl 77 #[vals1.v] w0<|XB K:=
 gg func77 h<|wc (l:=[Int]) (v:=(_,())) 5 [3,6,7] (fun a=>[(8,(vi a))])<|fun {_ _ a}=>fun b=>br 0 1 (ix 1<|ld 0<|br 0 4 (rr 3)<|gn 3<|b _)<|rr 3
def jbl(a:Int):Bool:=(a !=a)
def Pr(a:Int)(c:af):cl 145 #[(.int .i64 a)] c (fun e w'=>e=.returned (.bool<|jbl a)/\aq c w'):=
 nT func145 [] (fun b=>(vb<|a !=a)) fun d=>jk 5 d
def OP(b a:Int):Int:=(cond (b !=b) (cond (a !=a) 0<|-1)<|cond (a !=a) 1<|cond (decide (b<a)) (-1)<|cond (decide (b>a)) 1 0)
def KH(d c:Int)(f:af):cl 78 #[(.int .i64 d),(.int .i64 c)] f (fun e w'=>e=.returned (.int .i64<|OP d c)/\aq f w'):=
 nT func78 [(d !=d),(c !=c),(decide (d<c)),(decide (d>c))] (fun b=>(vi<|cond (b 0) (cond (b 1) 0<|-1)<|cond (b 1) 1<|cond (b 2) (-1)<|cond (b 3) 1 0)) fun a=>cp 2 call145 (Pr d)<|cp 2 call145 (Pr c)<|pb 0 2 0 a (fun a=>pb 0 2 1 a (fun a=>jk 2 a)<|fun a=>jk 2 a)<|fun a=>pb 0 2 1 a (fun a=>jk 2 a)<|fun a=>pb 0 4 2 a (fun a=>jk 2 a)<|fun a=>pb 0 4 3 a (fun a=>jk 2 a)<|fun a=>jk 2 a
def Zk(a:Int):Bool:=(a !=a)
def Pj(a:Int)(c:af):cl 146 #[(.int .u64 a)] c (fun e w'=>e=.returned (.bool<|Zk a)/\aq c w'):=
 nT func146 [] (fun b=>(vb<|a !=a)) fun d=>jk 5 d
def Ik(b a:Int):Int:=(cond (b !=b) (cond (a !=a) 0<|-1)<|cond (a !=a) 1<|cond (decide (b<a)) (-1)<|cond (decide (b>a)) 1 0)
def Xk(d c:Int)(f:af):cl 79 #[(.int .u64 d),(.int .u64 c)] f (fun e w'=>e=.returned (.int .i64<|Ik d c)/\aq f w'):=
 nT func79 [(d !=d),(c !=c),(decide (d<c)),(decide (d>c))] (fun b=>(vi<|cond (b 0) (cond (b 1) 0<|-1)<|cond (b 1) 1<|cond (b 2) (-1)<|cond (b 3) 1 0)) fun a=>cp 2 call146 (Pj d)<|cp 2 call146 (Pj c)<|pb 0 2 0 a (fun a=>pb 0 2 1 a (fun a=>jk 2 a)<|fun a=>jk 2 a)<|fun a=>pb 0 2 1 a (fun a=>jk 2 a)<|fun a=>pb 0 4 2 a (fun a=>jk 2 a)<|fun a=>pb 0 4 3 a (fun a=>jk 2 a)<|fun a=>jk 2 a
def jaN(a:ByteArray):Bool:=(!(decide (a=a)))
def Mz(a:ByteArray)(c:af):cl 147 #[(.string a)] c (fun e w'=>e=.returned (.bool<|jaN a)/\aq c w'):=
 nT func147 [] (fun b=>(vb<|!(decide (a=a)))) fun d=>jk 5 d
def jcw(d c:ByteArray)(b:af)(K:iy)(h:Br (!(decide (d=d))) (Br (!(decide (c=c))) (∀a,au b bl b bl a->K 0 a)<|∀a,au b bl b bl a->K (-1) a) (Br (!(decide (c=c))) (∀a,au b bl b bl a->K 1 a)<|∀a,au b bl b bl a->∃b1,(Go.binOp .lss 9 (vs d)<|vs c).run prog a=.ok (vb b1) a/\Br b1 (K (-1) a) (∃b2,(Go.binOp .gtr 9 (vs d)<|vs c).run prog a=.ok (vb b2) a/\Br b2 (K 1 a) (K 0 a)))):
  cl 80 #[(vs d),(vs c)] b<|XB K:=
 gh func80 h<|cp 2 call147 (Mz d)<|cp 2 call147 (Mz c)<|br 0 2 (br 0 2 (an<|rr 2)<|an<|rr 2)<|br 0 2 (an<|rr 2)<|an<|xe<|rb 3<|br 0 0 (rr 2)<|xe<|rb 3<|br 0 0 (rr 2)<|rr 2
def qY(a0 a1 a2:Int)(a3:ByteArray)(a4:Bool)(b0 b1 b2:Int)(b3:ByteArray)(b4:Bool)(w:af):(Go.binOp .eql 35 (.agg #[(.int .i64 a0),(.int .i64 a1),(.int .u64 a2),(.string a3),(.bool a4)])<|.agg #[(.int .i64 b0),(.int .i64 b1),(.int .u64 b2),(.string b3),(.bool b4)]).run prog w=.ok (.bool<|(a0==b0)&&((a1==b1)&&((a2==b2)&&((decide (a3=b3))&&(a4==b4))))) w:=by
 simp[Go.binOp,Op.equal,Op.maxDepth,go_sem,xd,bne]
 repeat' split
 all_goals simp_all
def qX(a0 a1 a2:Int)(a3:ByteArray)(a4:Bool)(b0 b1 b2:Int)(b3:ByteArray)(b4:Bool)(w:af):(Go.binOp .neq 35 (.agg #[(.int .i64 a0),(.int .i64 a1),(.int .u64 a2),(.string a3),(.bool a4)])<|.agg #[(.int .i64 b0),(.int .i64 b1),(.int .u64 b2),(.string b3),(.bool b4)]).run prog w=.ok (.bool<|!((a0==b0)&&((a1==b1)&&((a2==b2)&&((decide (a3=b3))&&(a4==b4)))))) w:=by
 simp[Go.binOp,Op.equal,Op.maxDepth,go_sem,xd,bne]
 repeat' split
 all_goals simp_all
def P7(s1 h:Sl)(e b:Int)(A:af)(a:NP)(c:af)(f:vt)(K:iu):Prop:=Br (decide (b<(h.ay:Int))) (∃a3:ao,At h b 5 a3/\∀d,au A a c a d->ni d a3 fun r u q y C=>∃a4:ao,At h (q6.wrap<|b-1) 5 a4/\ni d a4 fun x n m s w=>Br (!((r==x)&&((u==n)&&((q==m)&&((decide (y=s))&&(C==w)))))) (∃a5:ao,At h b 5 a5/\ni d a5 fun t p z o l=>∃j:ao,At s1 e 5 j/\rI d a j 5 (Ac t p z o l) fun B=>f (q6.wrap<|e+1) (q6.wrap<|b+1) a B) (f e (q6.wrap<|b+1) a d)) (∃i:Sl,(Instr.sliceAt 64 s1.v (ab<|vi e) bo bo).run prog c=.ok i.v c/\∃g:af,(Builtin.clear_ #[64] 0 #[i.v]).run prog c=.ok (.tuple #[]) g/\av a c g/\∃k:Sl,(Instr.sliceAt 64 s1.v bo (ab<|vi e) bo).run prog g=.ok k.v g/\K k g)
def Y9(s1:Sl)(f:Int)(n:af)(c:NP)(i:af)(l:pR)(K:iu):Prop:=Br (decide (f<(s1.ay:Int))) (∃a1:ao,At s1 f 5 a1/\∀d,au n c i c d->ni d a1 fun q w z s r=>∃a2:ao,At s1 (q6.wrap<|f-1) 5 a2/\ni d a2 fun t A p u x=>Br ((q==t)&&((w==A)&&((z==p)&&((decide (s=u))&&(r==x))))) (∃o:Sl,(Instr.sliceAt 64 s1.v (ab<|vi f) bo bo).run prog d=.ok o.v d/\∃(m:Int->Int->NP->WP) (h:Int->Int->af->Nat),m f 1 c d/\∀(k e:Int) (b:NP) (a:af),au n b a b a->m k e b a->P7 s1 o k e n b a (fun j g y w'=>m j g y w'/\h j g w'<h k e a) K)<|l (q6.wrap<|f+1) c d) (K s1 i)
def IX(s1:Sl)(e:af)(K:iu):Prop:=Br (decide ((s1.ay:Int)<2)) (K s1 e)<|∃(f:Int->NP->WP) (c:Int->af->Nat),f 1 bl e/\∀(g:Int) (b:NP) (a:af),au e b a b a->f g b a->Y9 s1 g e b a (fun d h w'=>f d h w'/\c d w'<c g a) K
def jag(s1 w0 K)(h:IX s1 w0 K):
  cl 81 #[s1.v] w0<|XA K:=
 gh func81 h<|br 0 4 (rr 3)<|wa (l:=[Int]) (v:=(_,())) 2 [0] (fun d=>[(3,(vi d))])<|fun {_ _ d}=>fun g=>br 0 4 (dq 1<|ix 2<|an<|ia<|fun {j x z p k}=>lr 0<|ix 3<|ia<|fun {q A e r y}=>lr 0<|ae 0 (qY j x z p k q A e r y)<|br 0 0 (xe<|rn 3<|wa (l:=[Int,Int]) (v:=(_,_,())) 2 [0,4] (fun b a=>[(3,(vi b)),(5,(vi a))])<|fun {_ _ b a}=>fun c=>br 0 4 (dq 1<|ix 2<|an<|ia<|fun {n s m w B}=>lr 0<|ix 3<|ia<|fun {u i f o t}=>lr 0<|ae 0 (qX n s m w B u i f o t)<|br 0 0 (ix 5<|ia<|lr 0<|ix 0<|u6 0<|je 6 0<|c _ _)<|je 4 0<|c _ _)<|xe<|rn 3<|xe<|ef 0<|nR<|xe<|rn 2<|rr 1)<|je 4 0<|g _)<|rr 3
def YU(a:bk)(b:af)(K:iu)(h:cl 276 #[Sl.nil.v,a] b (XA K)):
  cl 186 #[a] b<|XA K:=
 gg func186 h<|cc 2 call276<|xe<|fh<|rr 1
def S7(a:bk)(b:af)(K:iu)(h:cl 186 #[a] b (XA fun r1 d=>cl 187 #[r1.v] d<|XG fun c=>K r1 c)):
  cl 137 #[a] b<|XA K:=
 gg func137 h<|cc 2 call186<|xe<|fh<|cc 2 call187<|fh<|rr 2
def jam(s1:Sl)(a:af)(K:bk->WP)(h:cq a [s1.v] 46 fun b c=>K (.func (.func 188) #[] #[(vp<|ab b)]) c):
  cl 138 #[s1.v] a<|XI K:=
 gg func138 h<|fy 0<|rr 3
end Go.Proofs
end
