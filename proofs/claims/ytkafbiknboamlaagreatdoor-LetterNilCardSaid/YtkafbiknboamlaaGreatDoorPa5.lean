import Derived.Test.YtkafbiknboamlaaGreatDoorPa2
import Derived.Laws.IdiomStrings
import Derived.Test.YtkafbiknboamlaaGreatDoorProg
import Derived.KernelRfl
import Init.Data.Nat
import Derived.Test.YtkafbiknboamlaaGreatDoorPa4
import Derived.Recover
import Derived.Test.YtkafbiknboamlaaGreatDoorPa3
section
open Go Go.SE
namespace Go.SE
def byr (bs:List UInt8):List (List Value):=bs.map fun b=>[.int .u8 (b.toNat:Int)]
theorem vP (bs:List UInt8):(byr bs).length=bs.length:=by simp [byr]
theorem jQP (bs:List UInt8):∀q∈byr bs,q.all qB=true:=by intro q hq;obtain ⟨t,_,rfl⟩:=List.mem_map.1 hq;rfl
theorem jFD (bs:List UInt8):∀q∈byr bs,q.length=1:=by intro q hq;obtain ⟨t,_,rfl⟩:=List.mem_map.1 hq;rfl
theorem jGX (bs:List UInt8):(byr bs).flatten=bs.map fun b=>Value.int .u8 (b.toNat:Int):=by
 induction bs with
 | nil=>rfl
 | cons b bs ih=>simp only [byr,List.map_cons,List.flatten_cons] at ih ⊢;rw [ih];rfl
theorem jGY (a b:List UInt8):byr (a++b)=byr a++byr b:=by simp [byr]
theorem jMA {S:NP} {w:World} {s:Sl} {bs:List UInt8} (h:Lst S w 1 s (byr bs)) {j:Nat} (hj:j<bs.length):∃a,At s j 1 a∧S a.block∧w.cell? a=some (.int .u8 (bs[j].toNat:Int)):=by
 obtain ⟨a,h1,h2,h3⟩:=h.at_ j (by simpa [byr] using hj);exact ⟨a,h1,h2,jBQ (by simpa [byr] using h3)⟩
theorem tN (n:Nat):IntKind.u8.wrap (n:Int)=((UInt8.ofNat n).toNat:Int):=by
 rw [UInt8.toNat_ofNat'];simp [IntKind.wrap,IntKind.bits,IntKind.signed]
theorem jOP {P:Program} {src dst e:TypeId} (hs:P.underlying src=some (.slice e)) (he:P.underlying e=some (.int .u8)) (hd:P.underlying dst=some .string) {S:NP} {w:World} {s:Sl} {bs:List UInt8} (h:Lst S w 1 s (byr bs)) :
  (convert src dst s.v).run P w=.ok (.string ⟨bs.toArray⟩) w:=by
 have hl:s.len=bs.length:=by rw [h.len,vP]
 cases ha:s.a with
 | none =>
  have hb:bs=[]:=by
   cases bs with
   | nil=>rfl
   | cons b bs=>obtain ⟨_,⟨_,_,p,hp,_⟩,_⟩:=jMA h (j:=0) (by simp);rw [ha] at hp;cases hp
  subst hb
  have:s.v=.slice none 0 s.cap:=by unfold Sl.v;rw [ha,hl];rfl
  rw [this,run_convert_bytes_string w src dst e none 0 s.cap hs he hd];rfl
 | some p =>
  have:s.v=.slice (some p) bs.length s.cap:=by unfold Sl.v;rw [ha,hl]
  rw [this]
  refine run_convert_bytes_back w src dst e p s.cap bs hs he hd fun j hj=>?_
  obtain ⟨a,⟨_,_,b,hb,rfl⟩,_,hc⟩:=jMA h hj
  rw [ha] at hb;cases hb
  simpa using hc
section
variable {P:Program} {t u e ty:TypeId} {w:World}
theorem jAP (b:ByteArray):(Builtin.firstCells 1 b.size (.string b)).run P w=.ok (b.data.map fun x=>Value.int .u8 (x.toNat:Int)) w:=by
 have hx:(Array.map (fun b:UInt8=>Value.int IntKind.u8 (b.toNat:Int)) b.data).extract 0 b.size=Array.map (fun b:UInt8=>Value.int IntKind.u8 (b.toNat:Int)) b.data:=by
  have hs:b.size=(Array.map (fun b:UInt8=>Value.int IntKind.u8 (b.toNat:Int)) b.data).size:=by rw [Array.size_map];rfl
  rw [hs,Array.extract_size]
 simp [Builtin.firstCells,hx]
theorem jAV (T:SlType P t e 1 1) (hu:P.underlying u=some .string) (s:Sl) (hc:s.len≤s.cap) (b:ByteArray) (hb:b.size=0):(Builtin.append_ #[t,u] ty #[s.v,.string b]).run P w=.ok s.v w:=by
 obtain ⟨a,n,c⟩:=s;simp only at hc;have hbd:b=⟨#[]⟩:=by cases b;simp only [ByteArray.size] at hb;congr;exact Array.eq_empty_of_size_eq_zero hb
 subst hbd;cases a <;> simp [Builtin.append_,Sl.v,run_underlying T.ht,run_underlying hu,T.sizeOf,Builtin.lenOf,Builtin.firstCells,storeCells,hc,ByteArray.size]
theorem Rws.appendStr (T:SlType P t e 1 1) (hu:P.underlying u=some .string) {s:Sl} {rs:List (List Value)} (h:Rws w e 1 s rs) (b:ByteArray) (hb:rs.length+b.size≤140737488355328) (hm:rs.length+b.size≤maxLen) :
  ∃s' w',(Builtin.append_ #[t,u] ty #[s.v,.string b]).run P w=.ok s'.v w'∧Rws w' e 1 s' (rs++byr b.data.toList)∧Ext s.blk w w'∧(∀b,s'.blk b→s.blk b∨w.heap.size≤b):=by
 obtain ⟨i,z,hi,hz,hsz,hby,hzs⟩:=T.hi
 have hbl:b.data.toList.length=b.size:=by rw [Array.length_toList];rfl
 by_cases h0:b.size=0
 ·have hc : s.len ≤ s.cap := by
   rcases h.own with ⟨rfl,_⟩ | ⟨g,cur,_,_,hc,_⟩
   ·exact Nat.le_refl _
   ·rw [h.len];exact hc
  have:b.data.toList=[]:=List.length_eq_zero_iff.1 (by omega)
  rw [this]
  exact ⟨s,w,jAV T hu s hc b h0,by simpa [byr] using h,Ext.refl w,fun b hb=>.inl hb⟩
 have hml:rs.length+b.size≤9223372036854775807:=by simp only [maxLen] at hm;omega
 have hfl:=vL h.each
 have hql:(byr b.data.toList).length=b.size:=by rw [vP,hbl]
 have heach:∀q∈rs++byr b.data.toList,q.length=1:=fun q hq=>(List.mem_append.1 hq).elim (h.each q) (jFD _ q)
 have hfq:(b.data.map (fun x=>Value.int .u8 (x.toNat:Int))).toList=(byr b.data.toList).flatten:=by rw [jGX];simp
 have hsv:(b.data.map (fun x=>Value.int .u8 (x.toNat:Int))).size=b.size:=by rw [Array.size_map];rfl
 rcases h.own with ⟨rfl,rfl⟩ | ⟨g,cur,ha,hg,hcap,hcm,hcs,htake⟩
 ·simp only [List.length_nil,Nat.zero_add] at hb hml hm
  have hrun:=run_append_nil_string (P:=P) w t u ty e i z T.ht hu hi hz b (by omega) (by omega) (by rw [hby];omega)
  have hgr:=Rws.grown (w:=w) (e:=e) (sz:=1) (rs:=byr b.data.toList) (jFD _) (cur:=b.data.map (fun x=>Value.int .u8 (x.toNat:Int))) (by rw [hzs]) hfq (cap:=grownCap w b.size 0 e) (by rw [hql];exact grownCap_ge w _ 0 e) (grownCap_le_maxLen w _ 0 e hm)
  rw [hql] at hgr
  exact ⟨⟨some ⟨w.heap.size,0,none⟩,b.size,grownCap w b.size 0 e⟩,_,hrun,by simpa using hgr,⟨rfl,rfl,rfl,(by first | exact Nat.le_refl _ | exact Nat.le_succ _),by simp,fun b hb _=>tH w.drew _ b hb⟩,fun b hb=>by obtain ⟨a,ha,rfl⟩:=hb;cases ha;right;exact Nat.le_refl _⟩
 ·have hs':s.v=.slice (some ⟨g,0,none⟩) rs.length s.cap:=by unfold Sl.v;rw [ha,h.len]
  by_cases hroom:rs.length+b.size≤s.cap
  ·have hfit:rs.length+(byr b.data.toList).flatten.length≤cur.size:=by rw [vL (jFD _),hql,hcs];omega
   have h1':∀u∈(byr b.data.toList).flatten,u.oneCell'=true:=fun u hu=>by
    rw [jGX] at hu;obtain ⟨x,_,rfl⟩:=List.mem_map.1 hu;rfl
   have hst:=run_storeCells_at P g rs.length e (byr b.data.toList).flatten 0 cur w hg (by simpa using hfit) h1'
   have hrun:(Builtin.append_ #[t,u] ty #[s.v,.string b]).run P w=.ok (.slice (some ⟨g,0,none⟩) (rs.length+b.size) s.cap) (w.setRow g (cur.toList.take rs.length++(byr b.data.toList).flatten++cur.toList.drop (rs.length+(byr b.data.toList).flatten.length)).toArray):=by
    rw [hs'];simp only [Nat.add_zero] at hst;have hf:=jAP (P:=P) (w:=w) b;rw [jGX] at hst ⊢;simp [Builtin.append_,run_underlying T.ht,run_underlying hu,T.sizeOf,Builtin.lenOf,hroom,hf,Addr.add_lit,hst]
   refine ⟨⟨some ⟨g,0,none⟩,rs.length+b.size,s.cap⟩,_,hrun,⟨heach,by simp [hql],.inr ⟨g,_,rfl,setRow_heap w g cur _ e _ hg,by simpa [hql] using hroom,hcm,?_,?_⟩⟩,⟨rfl,rfl,rfl,(by first | exact Nat.le_refl _ | exact Nat.le_succ _),by simp,fun b hb hf=>setRow_other w g b _ (fun e=>hf ⟨_,ha,e.symm⟩)⟩,fun b hb=>by obtain ⟨a,ha',rfl⟩:=hb;cases ha';exact .inl ⟨_,ha,rfl⟩⟩
   ·simp only [List.size_toArray,List.length_append,List.length_take,List.length_drop,Array.length_toList]
    omega
   ·simp only [Nat.mul_one] at htake hfl ⊢
    rw [htake,List.flatten_append,List.length_append,hql]
    rw [vL (jFD _),hql,← hfl]
    simp only [Nat.mul_one]
    rw [show rs.flatten.length+b.size=(rs.flatten++(byr b.data.toList).flatten).length by rw [List.length_append,vL (jFD _),hql];omega]
    exact List.take_left
  ·have holds : ∀ j u, rs.flatten[j]? = some u → w.cell? ((⟨g, 0, none⟩ : Addr).add j) = some u := fun j u hu => by
    have hadd:(⟨g,0,none⟩:Addr).add j=⟨g,j,none⟩:=by unfold Addr.add;split <;> simp_all
    rw [hadd,cell_of_row w g j cur e (0,0) hg];rw [← htake,List.getElem?_take] at hu;split at hu
    ·simpa using hu
    ·cases hu
   have hfit:=growslice_fits (need:=rs.length+b.size) (old:=s.cap) (bytes:=1) (by omega) (by omega)
   have hgr:=Rws.grown (w:=w) (e:=e) (sz:=1) (rs:=rs++byr b.data.toList) heach (cur:=rs.flatten.toArray++b.data.map (fun x=>Value.int .u8 (x.toNat:Int))) (by rw [hzs]) (by simp [← hfq]) (cap:=grownCap w (rs.length+b.size) s.cap e) (by rw [List.length_append,hql];exact grownCap_ge w _ s.cap e) (grownCap_le_maxLen w _ _ e hm)
   have hrun:(Builtin.append_ #[t,u] ty #[s.v,.string b]).run P w=.ok (.slice (some ⟨w.heap.size,0,none⟩) (rs.length+b.size) (grownCap w (rs.length+b.size) s.cap e)) (w.drew.alloc (.cells (rs.flatten.toArray++b.data.map (fun x=>Value.int .u8 (x.toNat:Int))++Builtin.zeroCells z.cells (grownCap w (rs.length+b.size) s.cap e - (rs.length+b.size))) e)):=by
    rw [hs'];have hn:¬ (rs.length+b.size≤s.cap):=by omega
    have h63':¬ (9223372036854775807<((rs.length:Int)+(b.size:Int))):=by omega
    have h48':¬ (281474976710656<Builtin.nextslicecap (rs.length+b.size) s.cap*i.bytes):=by rw [hby];omega
    have hfo:=run_firstCells_some (P:=P) w.drew i.size rs.length ⟨g,0,none⟩ rs.length s.cap rs.flatten (by rw [hsz];exact hfl) (by simpa using holds);have hf:=jAP (P:=P) (w:=w.drew) b;rw [hsz] at hfo;simp [Builtin.append_,run_underlying T.ht,run_underlying hu,sizeOf,typeInfo,zeroValue,hi,hz,Builtin.lenOf,hn,h63',h48',Question.forced,hf,hfo,newRow,grownCap,hsz]
    try (congr 2;apply Array.ext';simp [List.append_assoc])
   rw [List.length_append,hql] at hgr
   exact ⟨⟨some ⟨w.heap.size,0,none⟩,rs.length+b.size,grownCap w (rs.length+b.size) s.cap e⟩,_,hrun,hgr,⟨rfl,rfl,rfl,(by first | exact Nat.le_refl _ | exact Nat.le_succ _),by simp,fun b hb _=>tH w.drew _ b hb⟩,fun b hb=>by obtain ⟨a,ha,rfl⟩:=hb;cases ha;right;exact Nat.le_refl _⟩
end
section
variable {P:Program} {w:World} {t:TypeId}
set_option maxRecDepth 4000 in
theorem or128:∀m:Fin 256,m.val ||| 128=m.val % 128+128:=by decide
theorem jOS (n:Nat):(Go.binOp .or t (.int .u8 (IntKind.u8.wrap (n:Int))) (.int .u8 128)).run P w=.ok (.int .u8 ((UInt8.ofNat (n % 128+128)).toNat:Int)) w:=by
 have h:IntKind.u8.wrap ((BitVec.ofInt IntKind.u8.bits (IntKind.u8.wrap (n:Int)) ||| BitVec.ofInt IntKind.u8.bits 128).toNat:Int)=((UInt8.ofNat (n % 128+128)).toNat:Int):=by
  have e1:(BitVec.ofInt IntKind.u8.bits (IntKind.u8.wrap (n:Int))).toNat=n % 256:=by
   rw [tN,UInt8.toNat_ofNat',BitVec.toNat_ofInt];simp [IntKind.bits];omega
  have e2:(BitVec.ofInt IntKind.u8.bits 128).toNat=128:=by decide
  rw [BitVec.toNat_or,e1,e2,or128 ⟨n % 256,Nat.mod_lt _ (by omega)⟩,tN];simp only [UInt8.toNat_ofNat'];omega
 show ((pure (Value.int .u8 _):Sem Value)).run P w=_;rw [h];rfl
theorem jRC (n:Nat):(Go.binOp .shr t (.int .u64 (n:Int)) (.int .u64 7)).run P w=.ok (.int .u64 ((n / 128:Nat):Int)) w:=by
 simp [Go.binOp,go_sem,IntKind.bits]
theorem jMO (n:Nat) (h:n<18446744073709551616):(Go.binOp .quo t (.int .u64 (n:Int)) (.int .u64 128)).run P w=.ok (.int .u64 ((n / 128:Nat):Int)) w:=by
 have:IntKind.u64.wrap ((n:Int).tdiv 128)=((n / 128:Nat):Int):=by
  rw [Int.tdiv_eq_ediv_of_nonneg (by omega)];simp only [IntKind.wrap,IntKind.bits,IntKind.signed];simp;omega
 show ((pure (Value.int .u64 (IntKind.u64.wrap ((n:Int).tdiv 128))):Sem Value)).run P w=_;rw [this];rfl
theorem jMN (n:Nat):(Go.binOp .rem t (.int .u64 (n:Int)) (.int .u64 128)).run P w=.ok (.int .u64 ((n % 128:Nat):Int)) w:=by
 have:(n:Int).tmod 128=((n % 128:Nat):Int):=by
  rw [Int.tmod_eq_emod_of_nonneg (by omega)];simp
 simp [Go.binOp,Op.intDiv,this]
theorem jMP (c:Nat) (h:c<256):(Go.binOp .and t (.int .u8 (c:Int)) (.int .u8 127)).run P w=.ok (.int .u8 ((c % 128:Nat):Int)) w:=by
 have hr:IntKind.u8.wrap ((BitVec.ofInt IntKind.u8.bits (c:Int) &&& BitVec.ofInt IntKind.u8.bits 127).toNat:Int)=((c % 128:Nat):Int):=by
  have e1:(BitVec.ofInt IntKind.u8.bits (c:Int)).toNat=c:=by
   rw [BitVec.toNat_ofInt];simp [IntKind.bits];omega
  have e2:(BitVec.ofInt IntKind.u8.bits 127).toNat=2 ^ 7 - 1:=by decide
  rw [BitVec.toNat_and,e1,e2,Nat.and_two_pow_sub_one_eq_mod,tN];simp only [UInt8.toNat_ofNat'];omega
 show ((pure (Value.int .u8 _):Sem Value)).run P w=_;rw [hr];rfl
theorem vV {n:Nat} (h:n<18446744073709551616):IntKind.u64.wrap (n:Int)=(n:Int):=by
 simp [IntKind.wrap,IntKind.bits,IntKind.signed];omega
theorem jTZ (x k:Nat) (hk:k<64) (h:x*2 ^ k<18446744073709551616):(Go.binOp .shl t (.int .u64 (x:Int)) (.int .i64 (k:Int))).run P w=.ok (.int .u64 ((x*2 ^ k:Nat):Int)) w:=by
 have hr:IntKind.u64.wrap ((x:Int)*2 ^ min (k:Int).toNat IntKind.u64.bits)=((x*2 ^ k:Nat):Int):=by
  have:min (k:Int).toNat IntKind.u64.bits=k:=by simp [IntKind.bits];omega
  rw [this,← vV h];simp
 have h0:¬ ((k:Int)<0):=by omega
 show (Op.shift .shl .u64 (x:Int) .i64 (k:Int)).run P w=_;unfold Op.shift;rw [if_neg h0];show ((pure (Value.int .u64 (IntKind.u64.wrap ((x:Int)*2 ^ min (k:Int).toNat IntKind.u64.bits))):Sem Value)).run P w=_;rw [hr];rfl
theorem jRF (x y:Nat) (hx:x<18446744073709551616) (hy:y<18446744073709551616):(Go.binOp .or t (.int .u64 (x:Int)) (.int .u64 (y:Int))).run P w=.ok (.int .u64 ((x ||| y:Nat):Int)) w:=by
 have hr:IntKind.u64.wrap ((BitVec.ofInt IntKind.u64.bits (x:Int) ||| BitVec.ofInt IntKind.u64.bits (y:Int)).toNat:Int)=((x ||| y:Nat):Int):=by
  have e (z:Nat) (hz:z<18446744073709551616):(BitVec.ofInt IntKind.u64.bits (z:Int)).toNat=z:=by
   rw [BitVec.toNat_ofInt];simp [IntKind.bits];omega
  rw [BitVec.toNat_or,e x hx,e y hy,vV (Nat.or_lt_two_pow (n:=64) hx hy)]
 show ((pure (Value.int .u64 _):Sem Value)).run P w=_;rw [hr];rfl
theorem jSY {x y k:Nat} (h:x<2 ^ k):x ||| (y*2 ^ k)=x+y*2 ^ k:=by
 have:=Nat.shiftLeft_add_eq_or_of_lt h y;rw [Nat.shiftLeft_eq] at this;rw [Nat.or_comm,← this,Nat.add_comm]
end
theorem Lst.sub {P:Program} {t e:TypeId} {sz bytes:Nat} {S:NP} (T:SlType P t e sz bytes) {w:World} {s:Sl} {rs:List (List Value)} (h:Lst S w sz s rs) (hcap:s.len≤s.cap) {k:IntKind} {lo n:Nat} (hn:lo+n≤rs.length) :
  ∃s':Sl,(Instr.sliceAt t s.v (some (.int k (lo:Int))) (some (.int k ((lo+n:Nat):Int))) none).run P w=.ok s'.v w∧Lst S w sz s' ((rs.drop lo).take n):=by
 have h1:((lo+n:Nat):Int)≤(s.cap:Int):=by rw [h.len] at hcap;omega
 have h2:(lo:Int)≤((lo+n:Nat):Int):=by omega
 refine ⟨⟨if s.cap=lo then s.a else s.a.map (·.add (lo*sz)),n,s.cap - lo⟩,?_,⟨by simp;omega,fun i hi=>?_⟩⟩
 ·simp [Instr.sliceAt,Instr.slice,Sl.v,run_underlying T.ht,Instr.sliceBounds,Instr.sliceBound,asIntOf,T.sizeOf]
  rw [if_pos (by omega),if_pos (by omega),show ((lo:Int)+(n:Int)).toNat - lo=n by omega]
 ·have hi':lo+i<rs.length:=by simp at hi;omega
  obtain ⟨a,⟨_,hlt,p,hp,rfl⟩,hS,hr⟩:=h.at_ (lo+i) hi'
  refine ⟨_,⟨by omega,by simp at hi ⊢;omega,p.add (lo*sz),?_,rfl⟩,?_,?_⟩
  ·rw [if_neg (by rw [h.len] at hcap;omega),hp];rfl
  ·simpa [zP] using hS
  ·have : (p.add (lo * sz)).add ((i : Int).toNat * sz) = p.add (((lo + i : Nat) : Int).toNat * sz) := by
    rw [xB,Int.toNat_natCast,Int.toNat_natCast,Nat.add_mul]
   rw [this,List.getElem_take,List.getElem_drop];exact hr
end Go.SE
end
section
open Go Go.SE
namespace Go.Proofs
attribute [local irreducible] wpL wpX opE wpE Calls
end Go.Proofs
end
section
open Go Go.SE
namespace Go.Proofs
open Tryz
attribute [local irreducible] Calls
def tmr (ts:List Int):List (List Value):=ts.map fun t=>[.int .i64 t]
theorem yX (ts:List Int):(tmr ts).length=ts.length:=by simp [tmr]
theorem jSV:SlType prog 137 23 1 8:=by
 refine ⟨underlying137,⟨t23,_,by kernel_rfl,(by kernel_rfl:t23.zero=some (.int .i64 0)),by kernel_rfl,by kernel_rfl,rfl⟩,by omega⟩
structure RetO (w:World) (e:TypeId) (sz:Nat) (rs:List (List Value)) (s:Sl) (w':World):Prop where
 rows:Rws w' e sz s rs
 own:∀b,s.blk b→w.heap.size≤b
 pure:Pure w w'
theorem RetO.kept {w:World} {H:NP} {e:TypeId} {sz:Nat} {rs:List (List Value)} {s:Sl} {w':World} (h:RetO w e sz rs s w'):Kept H w w':=h.pure.keptP
theorem jBJ {S:NP} {w:World} {s:Sl} {ts:List Int} (h:Lst S w 1 s (tmr ts)) {j:Nat} (hj:j<ts.length):∃a,At s j 1 a∧S a.block∧w.cell? a=some (.int .i64 ts[j]):=by
 obtain ⟨a,h1,h2,h3⟩:=h.at_ j (by simpa [tmr] using hj);exact ⟨a,h1,h2,jBQ (by simpa [tmr] using h3)⟩
theorem jCN {P:Program} (w:World) (d:Nat) {t e:TypeId} (a:Option Addr) (l c:Nat) (h:P.underlying t=some (.slice e)):(Op.equalIn (d+1) t (.slice a l c) (.slice none 0 0)).run P w=.ok a.isNone w:=by
 cases a <;> simp [Op.equalIn,run_underlying h]
theorem jGK {P:Program} (w:World) {t e:TypeId} (a:Option Addr) (l c:Nat) (h:P.underlying t=some (.slice e)):(Go.binOp .eql t (.slice a l c) (.slice none 0 0)).run P w=.ok (.bool a.isNone) w:=by
 simp only [Go.binOp];simp [Op.equal,Op.maxDepth,jCN w 9999 a l c h]
end Go.Proofs
end
section
open Nat
namespace Go.Proofs
def vN (n:Nat):List UInt8:=if h:n<128 then [UInt8.ofNat n] else UInt8.ofNat (n % 128+128) :: vN (n / 128)
theorem uS {n:Nat} (h:n<128):vN n=[UInt8.ofNat n]:=by rw [vN,dif_pos h]
theorem tZ {n:Nat} (h:128≤n):vN n=UInt8.ofNat (n % 128+128) :: vN (n / 128):=by rw [vN,dif_neg (by omega)]
theorem jMH (k:Nat):∀n,n<128 ^ (k+1)→(vN n).length≤k+1:=by
 induction k with
 | zero=>intro n h;rw [uS (by simpa using h)];simp
 | succ k ih =>
  intro n h
  by_cases h1:n<128
  ·rw [uS h1];simp
  ·rw [tZ (by omega),List.length_cons]
   have:=ih (n / 128) (by rw [Nat.div_lt_iff_lt_mul (by omega)];rw [Nat.pow_succ] at h;exact h)
   omega
theorem vR {n:Nat} (h:n<18446744073709551616):(vN n).length≤10:=jMH 9 n (by omega)
def qH (s:ByteArray):List UInt8:=vN s.size++s.data.toList
def uV:Nat→Nat→List UInt8→Except Nat (Nat×Nat)
 | _,_,[]=>.error 3
 | i,n,c :: l =>
  if i=9∧1<c.toNat then .error 11
  else if c.toNat<128 then (if c.toNat=0∧0<i then .error 10 else .ok (n+c.toNat*128 ^ i,i+1))
  else uV (i+1) (n+c.toNat % 128*128 ^ i) l
theorem xZ (i n:Nat) (c:UInt8) (l:List UInt8):uV i n (c :: l)=(if i=9∧1<c.toNat then .error 11
  else if c.toNat<128 then (if c.toNat=0∧0<i then .error 10 else .ok (n+c.toNat*128 ^ i,i+1))
  else uV (i+1) (n+c.toNat % 128*128 ^ i) l):=rfl
structure Rd where
 at_:Nat
 err:Nat
 spot:Nat
def qN (bs:List UInt8) (r:Rd):Nat×Rd :=
 if r.err=0 then match uV 0 0 (bs.drop r.at_) with
  | .ok (n,k)=>(n,⟨r.at_+k,0,r.spot⟩)
  | .error x=>(0,⟨r.at_,x,r.at_⟩)
 else (0,r)
def yT (bs:List UInt8) (r:Rd):Nat×Rd :=
 if r.err=0 then (if h:r.at_<bs.length then (bs[r.at_].toNat,⟨r.at_+1,0,r.spot⟩) else (0,⟨r.at_,3,r.at_⟩))
 else (0,r)
def qQ (bs:List UInt8) (most:Nat) (r:Rd):List UInt8×Rd :=
 if r.err=0 then match uV 0 0 (bs.drop r.at_) with
  | .ok (n,k)=>if most<n then ([],⟨r.at_,1,r.at_⟩) else if bs.length<r.at_+k+n then ([],⟨r.at_,3,r.at_⟩) else ((bs.drop (r.at_+k)).take n,⟨r.at_+k+n,0,r.spot⟩)
  | .error x=>([],⟨r.at_,x,r.at_⟩)
 else ([],r)
end Go.Proofs
end
section
open Go Go.SE
namespace Go.Proofs
open Tryz
attribute [local irreducible] Calls
theorem jBN:SlType prog 54 5 1 1:=by
 refine ⟨underlying54,⟨t5,_,by kernel_rfl,(by kernel_rfl:t5.zero=some (.int .u8 0)),by kernel_rfl,by kernel_rfl,rfl⟩,by omega⟩
theorem jJI {S:NP} (s:Sl) (bs:List UInt8) (w0:World) (hs:Lst S w0 1 s (byr bs)) (hz:s.a=none→s=Sl.nil) (hn:bs.length≤100000000000) :
  Calls prog 211 #[s.v] w0 (fun e w'=>∃r:Sl,e=.returned r.v∧RetO w0 5 1 (byr bs) r w'):=by
 refine w_O3 _ w0 (fun r w'=>RetO w0 5 1 (byr bs) r w') ?_
 unfold m_O3
 refine ⟨s.a.isNone,?_,fun h=>?_,fun h=>?_⟩
 ·exact jGK w0 s.a s.len s.cap underlying54
 ·have hs0:=hz (Option.isNone_iff_eq_none.1 h)
  subst hs0
  have:bs=[]:=by have:=hs.len;rw [vP] at this;exact List.length_eq_zero_iff.1 this.symm
  subst this
  exact ⟨Rws.nil _ _ _,fun b hb=>(by obtain ⟨a,ha,_⟩:=hb;cases ha),Ext.refl _⟩
 ·intro p1 w1 h1
  have E1:Pure w0 w1:=Ext.new h1
  obtain ⟨s2,w2,hr,hR,hE,hb⟩:=(Rws.empty (sz:=1) h1).appendL (P:=prog) (ty:=54) jBN (hs.pure E1) (jFD _) (jQP _) (by rw [vP];simp;omega) (by rw [vP];simp [maxLen];omega)
  have hp:=h1.at_size
  have hp':∀b,(Sl.mk (some p1) 0 0).blk b→w0.heap.size≤b:=fun b hb=>(by obtain ⟨a,ha,e⟩:=hb;cases ha;omega)
  exact ⟨s2,w2,hr,by simpa using hR,fun b h=>(hb b h).elim (hp' b) (fun h=>by have:=E1.size;omega),E1.trans' hE (fun i hi h=>by have:=hp' i h;omega)⟩
theorem RetO.put {w0 w w1:World} {s:Sl} {bs:List UInt8} {x:UInt8} {p:Addr} (h:RetO w0 5 1 (byr bs) s w) (hn:New w (.cells #[.int .u8 (x.toNat:Int)] 5) p w1) (hl:bs.length≤100000000000) :
  ∃s' w',(Builtin.append_ #[54,54] 54 #[s.v,(Sl.mk (some p) 1 1).v]).run prog w1=.ok s'.v w'∧RetO w0 5 1 (byr (bs++[x])) s' w':=by
 have E1:Pure w w1:=Ext.new hn
 have hrow:Row w1 p [.int .u8 (x.toNat:Int)]:=(Box.of_newA hn).row
 obtain ⟨s',w',hr,hR,hE,hb⟩:=(h.rows.pure E1).append (ty:=54) (c:=1) jBN hrow rfl rfl (by rw [vP];omega) (by rw [vP];simp [maxLen];omega)
 have h1:=(h.pure.trans E1)
 exact ⟨s',w',hr,by rw [jGY];exact hR,fun b hb'=>(hb b hb').elim (h.own b) (fun h2=>by have:=h1.size;omega),h1.trans' hE (fun i hi h2=>by have:=h.own i h2;omega)⟩
theorem RetO.text {w0 w:World} {s:Sl} {bs:List UInt8} {x:ByteArray} (h:RetO w0 5 1 (byr (bs++vN x.size)) s w) (hn:bs.length≤10000000000) (hN:x.size≤10000000000) :
  ∃s' w',(Builtin.append_ #[54,9] 54 #[s.v,.string x]).run prog w=.ok s'.v w'∧RetO w0 5 1 (byr (bs++qH x)) s' w':=by
 have hv:=vR (n:=x.size) (by omega)
 obtain ⟨s',w',hr,hR,hE,hb⟩:=h.rows.appendStr (ty:=54) jBN underlying9 x (by rw [vP,List.length_append];omega) (by rw [vP,List.length_append];simp [maxLen];omega)
 refine ⟨s',w',hr,?_,fun b hb'=>(hb b hb').elim (h.own b) (fun h2=>by have:=h.pure.size;omega),h.pure.trans' hE (fun i hi h2=>by have:=h.own i h2;omega)⟩
 rw [qH,← List.append_assoc,jGY];exact hR
theorem jAM {S:NP} (s:Sl) (bs:List UInt8) (n:Nat) (w0:World) (hs:Lst S w0 1 s (byr bs)) (hz:s.a=none→s=Sl.nil) (hn:bs.length≤10000000000) (hN:n<18446744073709551616) :
  Calls prog 183 #[s.v,.int .u64 (n:Int)] w0 (fun e w'=>∃r:Sl,e=.returned r.v∧RetO w0 5 1 (byr (bs++vN n)) r w'):=by
 refine w_S1 _ _ w0 (fun r w'=>RetO w0 5 1 (byr (bs++vN n)) r w') ?_
 unfold m_S1
 refine (jJI s bs w0 hs hz (by omega)).mono ?_
 rintro _ w1 ⟨r1,rfl,h1⟩
 refine ⟨r1,rfl,fun b m w=>∃k:Nat,∃xs:List UInt8,m=(k:Int)∧k<18446744073709551616∧xs++vN k=bs++vN n∧RetO w0 5 1 (byr xs) b w,fun _ m _=>m.toNat,⟨n,bs,rfl,hN,rfl,h1⟩,?_⟩
 rintro b _ w ⟨k,xs,rfl,hk,hx,hR⟩
 have hlen:xs.length≤10000000010:=by
  have:=congrArg List.length hx;have:=vR hN;simp only [List.length_append] at *;omega
 unfold m_S1_l1
 refine ⟨fun h=>?_,fun h=>?_⟩
 ·have h:=of_decide_eq_true h
  refine ⟨_,jOS k,fun p2 w2 h2=>?_⟩
  obtain ⟨s',w',hr,hR'⟩:=hR.put h2 (by omega)
  refine ⟨s',w',hr,_,jRC k,⟨k / 128,xs++[UInt8.ofNat (k % 128+128)],rfl,by omega,?_,hR'⟩,by show (((k / 128:Nat):Int)).toNat<((k:Int)).toNat;omega⟩
  rw [← hx,tZ (n:=k) (by omega)];simp
 ·have h:=of_decide_eq_false h
  intro p2 w2 h2
  rw [tN] at h2
  obtain ⟨s',w',hr,hR'⟩:=hR.put h2 (by omega)
  refine ⟨s',w',hr,?_⟩
  rw [← hx,uS (n:=k) (by omega)];exact hR'
theorem tF {S:NP} (s:Sl) (bs:List UInt8) (n:Nat) (w0:World) (hs:Lst S w0 1 s (byr bs)) (hn:bs.length≤10000000000) (hN:n<18446744073709551616) :
  Calls prog 172 #[s.v,.int .u64 (n:Int)] w0 (fun e w'=>∃r:Sl,e=.returned r.v∧RetO w0 5 1 (byr (bs++vN n)) r w'):=by
 refine w_R1 _ _ w0 (fun r w'=>RetO w0 5 1 (byr (bs++vN n)) r w') ?_
 unfold m_R1
 intro p1 w1 h1
 have E1:Pure w0 w1:=Ext.new h1
 obtain ⟨s2,w2,hr,hR,hE,hb⟩:=(Rws.empty (sz:=1) h1).appendL (P:=prog) (ty:=54) jBN (hs.pure E1) (jFD _) (jQP _) (by rw [vP];simp;omega) (by rw [vP];simp [maxLen];omega)
 have hp:=h1.at_size
 have hp':∀b,(Sl.mk (some p1) 0 0).blk b→w0.heap.size≤b:=fun b hb=>(by obtain ⟨a,ha,e⟩:=hb;cases ha;omega)
 have hR0:RetO w0 5 1 (byr bs) s2 w2:=⟨by simpa using hR,fun b h=>(hb b h).elim (hp' b) (fun h=>by have:=E1.size;omega),E1.trans' hE (fun i hi h=>by have:=hp' i h;omega)⟩
 refine ⟨s2,w2,hr,fun m b w=>∃k:Nat,∃xs:List UInt8,m=(k:Int)∧k<18446744073709551616∧xs++vN k=bs++vN n∧RetO w0 5 1 (byr xs) b w,fun m _ _=>m.toNat,⟨n,bs,rfl,hN,rfl,hR0⟩,?_⟩
 rintro _ b w ⟨k,xs,rfl,hk,hx,hR⟩
 have hlen:xs.length≤10000000010:=by
  have:=congrArg List.length hx;have:=vR hN;simp only [List.length_append] at *;omega
 unfold m_R1_l1
 refine ⟨fun h=>?_,fun h=>?_⟩
 ·have h:=of_decide_eq_true h
  refine ⟨_,jMN k,fun p2 w2 h2=>?_⟩
  rw [show IntKind.u64.wrap (((k % 128:Nat):Int)+128)=((k % 128+128:Nat):Int) by simp [IntKind.wrap,IntKind.bits,IntKind.signed];omega,tN] at h2
  obtain ⟨s',w',hr,hR'⟩:=hR.put h2 (by omega)
  refine ⟨s',w',hr,_,jMO k hk,⟨k / 128,xs++[UInt8.ofNat (k % 128+128)],rfl,by omega,?_,hR'⟩,by show (((k / 128:Nat):Int)).toNat<((k:Int)).toNat;omega⟩
  rw [← hx,tZ (n:=k) (by omega)];simp
 ·have h:=of_decide_eq_false h
  intro p2 w2 h2
  rw [tN] at h2
  obtain ⟨s',w',hr,hR'⟩:=hR.put h2 (by omega)
  refine ⟨s',w',hr,?_⟩
  rw [← hx,uS (n:=k) (by omega)];exact hR'
theorem jQD {S:NP} (s:Sl) (bs:List UInt8) (x:ByteArray) (w0:World) (hs:Lst S w0 1 s (byr bs)) (hz:s.a=none→s=Sl.nil) (hn:bs.length≤10000000000) (hN:x.size≤10000000000) :
  Calls prog 191 #[s.v,.string x] w0 (fun e w'=>∃r:Sl,e=.returned r.v∧RetO w0 5 1 (byr (bs++qH x)) r w'):=by
 refine w_N4 _ _ w0 (fun r w'=>RetO w0 5 1 (byr (bs++qH x)) r w') ?_
 unfold m_N4
 rw [show IntKind.u64.wrap (x.size:Int)=(x.size:Int) by simp [IntKind.wrap,IntKind.bits,IntKind.signed];omega]
 refine (jAM s bs x.size w0 hs hz hn (by omega)).mono ?_
 rintro _ w1 ⟨r1,rfl,h1⟩
 exact ⟨r1,rfl,h1.text hn hN⟩
theorem jNL {S:NP} (s:Sl) (bs:List UInt8) (x:ByteArray) (w0:World) (hs:Lst S w0 1 s (byr bs)) (hn:bs.length≤10000000000) (hN:x.size≤10000000000) :
  Calls prog 173 #[s.v,.string x] w0 (fun e w'=>∃r:Sl,e=.returned r.v∧RetO w0 5 1 (byr (bs++qH x)) r w'):=by
 refine w_E4 _ _ w0 (fun r w'=>RetO w0 5 1 (byr (bs++qH x)) r w') ?_
 unfold m_E4
 rw [show IntKind.u64.wrap (x.size:Int)=(x.size:Int) by simp [IntKind.wrap,IntKind.bits,IntKind.signed];omega]
 refine (tF s bs x.size w0 hs hn (by omega)).mono ?_
 rintro _ w1 ⟨r1,rfl,h1⟩
 exact ⟨r1,rfl,h1.text hn hN⟩
end Go.Proofs
end
section
namespace Go.SE
section
variable {P:Program} {n:Nat} {ρ:Env} {w:World} {ds:List Deferred} {Q:Exit→Act→World→Prop} {a:Act}
theorem jED {c1 c2:Code} (ha:Rep ds n ρ a)
  (h:wpE (x:=⟨none,ds⟩) P n c1 (fun e ρ' w'=>match e with | .normal=>∀a',Rep ds n ρ' a'→c2.wp P Q a' w' | .panic ch=>∀a',Rep ds n ρ' a'→Q (.panic ch) a' w' | _=>False) ρ w):(Code.seq c1 c2).wp P Q a w:=by
 refine wp_seq (wpIn_wide.1 (wpIn_mono (h a ha) ?_))
 rintro e a' w' ⟨ρ',⟨hr,hq⟩ | ⟨rfl,_,_,D,hr,hD,hq⟩⟩
 ·cases e <;> first | exact hq.elim | exact hq _ hr
 ·exact hq.elim
theorem jLC {c:Code} (ha:Rep ds n ρ a)
  (h:wpE (x:=⟨none,ds⟩) P n c (fun e ρ' w'=>match e with | .normal=>∀a',Rep ds n ρ' a'→Q .normal a' w' | .panic ch=>∀a',Rep ds n ρ' a'→Q (.panic ch) a' w' | _=>False) ρ w):c.wp P Q a w:=by
 refine wpIn_wide.1 (wpIn_mono (h a ha) ?_)
 rintro e a' w' ⟨ρ',⟨hr,hq⟩ | ⟨rfl,_,_,D,hr,hD,hq⟩⟩
 ·cases e <;> first | exact hq.elim | exact hq _ hr
 ·exact hq.elim
theorem jNZ {id t:Nat} {f:FuncId} {caps:Array Operand} {ty ty':TypeId} {pos pos':String} {aft aft':Array Edge} {c2:Code} (ha:Rep ds n ρ a) (ht:t<n)
  (h:∀a',Rep (⟨.fn (.func f) (caps.map (evE ρ)),#[]⟩ :: ds) n (put ρ (some t) (.func (.func f) #[] (caps.map (evE ρ)))) a'→c2.wp P Q a' w) :
  (Code.seq (.region id #[⟨some t,.makeFunc (.func f) #[] caps,ty,pos,aft,none⟩,⟨none,.defer ⟨.value (.tmp t),#[],#[]⟩,ty',pos',aft',none⟩] false) c2).wp P Q a w:=by
 have h1:Rep ds n (put ρ (some t) (.func (.func f) #[] (caps.map (evE ρ)))) (a.put (some t) (.func (.func f) #[] (caps.map (evE ρ)))):=ha.put (fun k e=>by cases e;exact ht) _
 have h2:=h ({ (a.put (some t) (.func (.func f) #[] (caps.map (evE ρ)))) with defers:=⟨.fn (.func f) (caps.map (evE ρ)),#[]⟩ :: ds }.put none undef) ⟨rfl,h1.size,h1.get⟩
 refine wp_seq ((wpIn_wide (n:=0)).1 (wpIn_region_lit (l:=[_,_]) ?_))
 unfold wpListIn
 rw [if_pos (by simp [Region.wanted])]
 refine jCV (ro:=none) ⟨by simp,?_⟩
 rw [ha.eval]
 simp only [execOp,Instr.makeFunc]
 show wpListIn _ 0 P _ _ _ _ _
 unfold wpListIn
 rw [if_pos (by simp [Region.wanted])]
 refine ⟨fun f _=>trivial,?_⟩
 have hev:(a.put (some t) (.func (.func f) #[] (caps.map (evE ρ)))).eval (.tmp t)=.func (.func f) #[] (caps.map (evE ρ)):=by
  rw [h1.eval];simp [evE,put,upd]
 have hd:=h1.defers
 simp [Oper.semAt,Fence.wide,execOp,resolve,hev,Deferred.ofValue,Oper.uponIn,wpListIn,Exit.then,hd]
 exact h2
theorem jIV {f:FuncId} {fn:Func} {c:Code} {args:List Value} {R:Ending→World→Prop} (hf:P.funcs[f]?=some fn) (hb:fn.body=some c) (hn:fn.ntmps=n) (hl:args.length≤n)
  (h:∀a,Rep [] n (jHA args) a→c.wp P (bodyPostD P fn R) a w):Calls P f args.toArray w R:=by
 subst hn;exact calls_of_wp_defers hf hb (h _ (jDT args hl))
inductive Recov:FrameMode→Value→FrameMode→Prop
 | idle:Recov .returning .nilIface .returning
 | hit (v:Value) (older:List PanicEntry):Recov (.panicking ({ v:=v,recovered:=false } :: older)) v (.panicking ({ v:=v,recovered:=true } :: older))
def bodyEN (P:Program) (fn:Func) (n:Nat) (R:Ending→World→Prop):Exit→Env→World→Prop
 | .normal,ρ,w=>∃v,(∀ds a,Rep ds n ρ a→(results fn a.tmps).run P w=.ok v w)∧R (.returned v) w
 | .panic ch,_,w=>R (.panicked ch) w
 | _,_,_=>False
theorem jAR {id t t2:Nat} {f:FuncId} {fn:Func} {c:Code} {args:List Value} {v:Value} {u u':FrameMode} {R:Ending→World→Prop} {ty ty':TypeId} {pos pos':String} {aft aft':Array Edge}
  (hu:Recov u v u') (hf:P.funcs[f]?=some fn)
  (hb:fn.body=some (Code.seq (.region id #[⟨some t,.call ⟨.builtin .recover,#[],#[]⟩,ty,pos,aft,none⟩,⟨some t2,.assign (.tmp t),ty',pos',aft',none⟩] false) c))
  (hn:fn.ntmps=n) (hl:args.length≤n) (ht:t<n) (ht2:t2<n)
  (h:wpE (x:=⟨none,[]⟩) P n c (bodyEN P fn n R) (put (put (jHA args) (some t) v) (some t2) v) w) :
  CallsD P f args.toArray u w (fun e u1 w'=>u1=u'∧R e w'):=by
 subst hn
 refine callsD_of_wpS hf hb fun c₀ cs hm=>?_
 apply wpS_seq
 apply wpS_region
 have hr:=jDT args hl
 have h1:Rep [] fn.ntmps (put (jHA args) (some t) v) _:=hr.put (d:=some t) (fun k e=>by cases e;exact ht) v
 have h2:Rep [] fn.ntmps (put (put (jHA args) (some t) v) (some t2) v) _:=h1.put (d:=some t2) (fun k e=>by cases e;exact ht2) v
 have hv:((Act.mk (args.toArray++Array.replicate (fn.ntmps - args.toArray.size) undef) []).put (some t) v).eval (.tmp t)=v:=by
  rw [h1.eval];simp [evE,put,upd]
 have key:∀cs',cs'={ c₀ with mode:=u' } :: cs→c.wpS P (bodyPostS P fn c₀ cs fun e u1 w'=>u1=u'∧R e w') ((((Act.mk (args.toArray++Array.replicate (fn.ntmps - args.toArray.size) undef) []).put (some t) v)).put (some t2) v) cs' w:=by
  rintro cs' rfl;refine wpS_of_wp (jLC h2 (jDR ?_ h));intro e ρ' w' hq;cases e with
  | normal =>
   intro a' ha'
   obtain ⟨x,hx,hR⟩:=hq
   exact ⟨ha'.defers,u',rfl,x,hx _ a' ha',rfl,hR⟩
  | panic ch =>
   intro a' ha'
   exact ⟨ha'.defers,u',rfl,rfl,hq⟩
  | _=>exact hq.elim
 have h0:(execOp (Act.mk (args.toArray++Array.replicate (fn.ntmps - args.toArray.size) undef) []).eval ⟨some t,.call ⟨.builtin .recover,#[],#[]⟩,ty,pos,aft,none⟩).run P w=.ok .recover w:=by
  simp [execOp,resolve,invoke,builtin]
 show wpOpsS P _ _ [0,1] _ _ _
 cases hu with
 | idle =>
  have hrd:recoverD (c₀ :: cs)=none:=by simp [recoverD,hm]
  simp only [wpOpsS,List.getElem?_toArray,List.getElem?_cons_zero,List.getElem?_cons_succ]
  rw [if_pos (by simp [Region.wanted]),h0]
  simp only [hrd]
  rw [if_pos (by simp [Region.wanted])]
  simp only [execOp,hv,Oper.upon]
  exact key _ (by cases c₀;simp_all)
 | hit v older =>
  have hrd:recoverD (c₀ :: cs)=some (v,{ c₀ with mode:=.panicking ({ v:=v,recovered:=true } :: older) } :: cs):=by simp [recoverD,hm]
  simp only [wpOpsS,List.getElem?_toArray,List.getElem?_cons_zero,List.getElem?_cons_succ]
  rw [if_pos (by simp [Region.wanted]),h0]
  simp only [hrd]
  rw [if_pos (by simp [Region.wanted])]
  simp only [execOp,hv,Oper.upon]
  exact key _ rfl
end
end Go.SE
end
section
open Go Go.SE
namespace Go.Proofs
open Tryz
attribute [local irreducible] Calls CallsD
theorem jMC {P:Program} {ε:Operand→Value} {w:World} {d:Option Tmp} {ty:TypeId} {pos:String} {aft:Array Edge} {g:Option (Nat×Bool)} {x:Operand} {X T:TypeId} {v:Value} {td:TypeDesc} (hx:ε x=.iface T v) (ht:P.underlying T=some td) (hi:∀m,td≠.interface m) :
  (execOp ε ⟨d,.typeAssert x X T true,ty,pos,aft,g⟩).run P w=.ok (.value (.tuple #[v,.bool true])) w:=by
 simp only [execOp,hx]
 have:(Instr.typeAssert (.iface T v) X T true).run P w=.ok (.tuple #[v,.bool true]) w:=by
  unfold Instr.typeAssert;simp only [Sem.run_bind,run_underlying ht,Result.andThen];cases td <;> first | exact absurd rfl (hi _) | simp
 simp [this]
set_option maxRecDepth 100000 in
theorem jQC (pf pr:Addr) (w:World):CallsD prog 245 #[.pointer (some pf),.pointer (some pr)] .returning w (fun e u' w'=>u'=.returning∧(e=.returned (.tuple #[])∧w'=w)):=by
 refine jAR (args:=[.pointer (some pf),.pointer (some pr)]) (R:=fun e w'=>e=.returned (.tuple #[])∧w'=w) .idle func245 rfl ntmps245 (Nat.le_of_ble_eq_true rfl) (by decide) (by decide) ?_;refine zA ?_;refine rg ?_;refine q0 .nilIface ?_;refine q0 (.bool false) ?_;refine zB ?_;refine zL ?_;refine vJ (t:=false) (by kernel_rfl) (fun hc1=>by cases hc1) (fun hc1=>?_);refine zC ?_;exact ⟨.tuple #[],fun ds a ha=>by rw [results_none results245],rfl,rfl⟩
set_option maxRecDepth 100000 in
theorem jSN (pf pr r:Addr) (from_ e:Int) (older:List PanicEntry) (w:World) (hf:w.cell? pf=some (.int .i64 from_)) (hr:w.cell? pr=some (.pointer (some r))) (h1:zQ w (r.add 1)) (h2:zQ w (r.add 2)) (h3:zQ w (r.add 3)) :
  CallsD prog 245 #[.pointer (some pf),.pointer (some pr)] (.panicking ({ v:=.iface 274 (.int .i64 e),recovered:=false } :: older)) w (fun e' u' w'=>u'=.panicking ({ v:=.iface 274 (.int .i64 e),recovered:=true } :: older) ∧
   (e'=.returned (.tuple #[])∧w'=((w.setCell (r.add 1) (.int .i64 from_)).setCell (r.add 2) (.int .i64 e)).setCell (r.add 3) (.int .i64 from_))):=by
 refine jAR (args:=[.pointer (some pf),.pointer (some pr)]) (R:=fun e' w'=>e'=.returned (.tuple #[])∧w'=((w.setCell (r.add 1) (.int .i64 from_)).setCell (r.add 2) (.int .i64 e)).setCell (r.add 3) (.int .i64 from_)) (.hit _ older) func245 rfl ntmps245 (Nat.le_of_ble_eq_true rfl) (by decide) (by decide) ?_
 refine zA ?_
 refine rg ?_
 refine q0 (.iface 274 (.int .i64 e)) ?_
 refine q0 (.bool true) ?_
 refine zB ?_
 refine zL ?_
 refine vJ (t:=true) (by kernel_rfl) (fun hc1=>?_) (fun hc1=>by cases hc1)
 refine zA ?_
 refine rg ?_
 refine q0 (.iface 274 (.int .i64 e)) ?_
 refine q2 (.tuple #[.int .i64 e,.bool true]) (jMC (by kernel_rfl) underlying274 (by intro m;simp)) ?_
 refine q0 (.tuple #[.int .i64 e,.bool true]) ?_
 refine q0 (.int .i64 e) ?_
 refine q0 (.bool true) ?_
 refine q0 (.int .i64 e) ?_
 refine q0 (.bool true) ?_
 refine zB ?_
 refine zL ?_
 refine zA ?_
 refine zA ?_
 refine rg ?_
 refine q0 (.bool true) ?_
 refine q0 (.bool false) ?_
 refine zB ?_
 refine zL ?_
 refine vJ (t:=false) (by kernel_rfl) (fun hc1=>by cases hc1) (fun hc1=>?_)
 refine zC ?_
 refine zL ?_
 refine rg ?_
 refine q2 (.pointer (some r)) (uP (a:=pr) (by kernel_rfl) (isAgg230 _) hr) ?_
 refine q2 (.pointer (some r)) (uP (a:=pr) (by kernel_rfl) (isAgg230 _) hr) ?_
 refine q2 (.pointer (some r)) (uP (a:=pr) (by kernel_rfl) (isAgg230 _) hr) ?_
 refine q2 (.int .i64 from_) (uP (a:=pf) (by kernel_rfl) (isAgg3 _) hf) ?_
 refine q0 (.int .i64 e) ?_
 refine q2 (.int .i64 from_) (uP (a:=pf) (by kernel_rfl) (isAgg3 _) hf) ?_
 refine q0 (.pointer (some r)) ?_
 refine q0 (.pointer (some (r.add 1))) ?_
 refine uU (zJ rfl) (tK (a:=r.add 1) (v:=.int .i64 from_) (by kernel_rfl) (by kernel_rfl) rfl (sizeOf3 _) h1) ?_
 rintro w1 rfl
 refine q0 (.pointer (some r)) ?_
 refine q0 (.pointer (some (r.add 2))) ?_
 refine uU (zJ rfl) (tK (a:=r.add 2) (v:=.int .i64 e) (by kernel_rfl) (by kernel_rfl) rfl (sizeOf33 _) (zQ.setCell h2)) ?_
 rintro w2 rfl
 refine q0 (.pointer (some r)) ?_
 refine q0 (.pointer (some (r.add 3))) ?_
 refine uU (zJ rfl) (tK (a:=r.add 3) (v:=.int .i64 from_) (by kernel_rfl) (by kernel_rfl) rfl (sizeOf3 _) (zQ.setCell (zQ.setCell h3))) ?_
 rintro w3 rfl
 refine zB ?_
 exact ⟨.tuple #[],fun ds a ha=>by rw [results_none results245],rfl,rfl⟩
theorem jTC {P:Program} {w:World} {f:FuncId} {cap args:Array Value} (hc:∀args w,(callFunc f args).run P w=.ok (.enter f args) w) (h:cap=args):(invoke (.fn (.func f) cap) #[]).run P w=.ok (.enter f args) w:=by
 subst h;simp [invoke,hc]
set_option maxRecDepth 100000 in
theorem jCS (r:Addr) (do_:Value) (e:Int) (w0:World) (he:w0.cell? (r.add 2)=some (.int .i64 e)) (h0:e≠0) :
  Calls prog 227 #[.pointer (some r),do_] w0 (fun e w'=>e=.returned (.tuple #[])∧Pure w0 w'):=by
 refine jDF (args:=[.pointer (some r),do_]) func227 rfl ntmps227 (Nat.le_of_ble_eq_true rfl) ?_
 refine zA ?_
 refine rg ?_
 refine yV (O:=(.cells #[(.pointer (some r))] 230)) (fun p=>.pointer (some p)) (zJ rfl) (jTS (cs:=#[(.pointer (some r))]) (by kernel_rfl)) ?_
 intro p1 w1 hn1
 have E1:Pure w0 w1:=Ext.new hn1
 have hp1:w1.cell? p1=some (.pointer (some r)):=(Box.of_newA hn1).cell0
 have he1:=E1.cell he id
 refine zB ?_
 refine zL ?_
 refine zA ?_
 refine zA ?_
 refine rg ?_
 refine q2 (.pointer (some r)) (uP (a:=p1) (by kernel_rfl) (isAgg230 _) hp1) ?_
 refine q2 (.bool false) (yM (x:=some r) (by kernel_rfl) rfl underlying230) ?_
 refine q0 (.bool false) ?_
 refine q2 (.pointer (some r)) (uP (a:=p1) (by kernel_rfl) (isAgg230 _) hp1) ?_
 refine q0 (.pointer (some r)) ?_
 refine q0 (.pointer (some (r.add 2))) ?_
 refine q2 (.int .i64 e) (uP (a:=r.add 2) (by kernel_rfl) (isAgg33 _) he1) ?_
 refine q0 (.bool ((e:Int) != 0)) ?_
 refine q0 (.bool ((e:Int) != 0)) ?_
 refine zB ?_
 refine zL ?_
 refine vJ (t:=true) (by rw [show ((e:Int) != 0)=true by simpa using h0];kernel_rfl) (fun hc1=>?_) (fun hc1=>by cases hc1)
 refine jNY ?_
 refine vD ?_
 exact jFP (.inl rfl) results227 ⟨rfl,E1⟩
set_option maxRecDepth 100000 in
theorem jKX (r:Addr) (fd:FuncId) (caps:Array Value) (at_:Int) (w0:World) (K:WP) (h1:w0.cell? (r.add 1)=some (.int .i64 at_)) (h2:w0.cell? (r.add 2)=some (.int .i64 0))
  (hc:∀args w,(callFunc fd args).run prog w=.ok (.enter fd args) w)
  (hdo:∀w1 p pf,Pure w0 w1→w0.heap.size≤Addr.block p→w0.heap.size≤Addr.block pf→w1.cell? p=some (.pointer (some r))→w1.cell? pf=some (.int .i64 at_) →
   Calls prog fd caps w1 (fun e w2=>(e=.returned (.tuple #[])∧K w2)∨∃x,e=.panicked [{ v:=.iface 274 (.int .i64 x),recovered:=false }]∧w2.cell? p=some (.pointer (some r))∧w2.cell? pf=some (.int .i64 at_)∧zQ w2 (r.add 1)∧zQ w2 (r.add 2)∧zQ w2 (r.add 3) ∧
    K (((w2.setCell (r.add 1) (.int .i64 at_)).setCell (r.add 2) (.int .i64 x)).setCell (r.add 3) (.int .i64 at_)))) :
  Calls prog 227 #[.pointer (some r),.func (.func fd) #[] caps] w0 (fun e w'=>e=.returned (.tuple #[])∧K w'):=by
 refine jIV (args:=[.pointer (some r),.func (.func fd) #[] caps]) func227 rfl ntmps227 (Nat.le_of_ble_eq_true rfl) ?_
 intro a ha
 refine jED ha ?_
 refine rg ?_
 refine yV (O:=(.cells #[(.pointer (some r))] 230)) (fun p=>.pointer (some p)) (zJ rfl) (jTS (cs:=#[(.pointer (some r))]) (by kernel_rfl)) ?_
 intro p1 w1 hn1
 have E1:Pure w0 w1:=Ext.new hn1
 have hp1:w1.cell? p1=some (.pointer (some r)):=(Box.of_newA hn1).cell0
 have he1:=E1.cell h2 id
 have hb1:=hn1.at_size
 clear ha
 refine zB ?_
 intro a ha
 refine jED ha ?_
 refine zA ?_
 refine rg ?_
 refine q2 (.pointer (some r)) (uP (a:=p1) (by kernel_rfl) (isAgg230 _) hp1) ?_
 refine q2 (.bool false) (yM (x:=some r) (by kernel_rfl) rfl underlying230) ?_
 refine q0 (.bool false) ?_
 refine q2 (.pointer (some r)) (uP (a:=p1) (by kernel_rfl) (isAgg230 _) hp1) ?_
 refine q0 (.pointer (some r)) ?_
 refine q0 (.pointer (some (r.add 2))) ?_
 refine q2 (.int .i64 0) (uP (a:=r.add 2) (by kernel_rfl) (isAgg33 _) he1) ?_
 refine q0 (.bool false) ?_
 refine q0 (.bool false) ?_
 refine zB ?_
 refine zL ?_
 refine vJ (t:=false) (by kernel_rfl) (fun hc1=>by cases hc1) (fun hc1=>?_)
 refine zC ?_
 clear ha
 intro a ha
 refine jED ha ?_
 refine rg ?_
 refine q2 (.pointer (some r)) (uP (a:=p1) (by kernel_rfl) (isAgg230 _) hp1) ?_
 refine q0 (.pointer (some r)) ?_
 refine q0 (.pointer (some (r.add 1))) ?_
 refine q2 (.int .i64 at_) (uP (a:=r.add 1) (by kernel_rfl) (isAgg3 _) (E1.cell h1 id)) ?_
 refine yV (O:=(.cells #[(.int .i64 0)] 3)) (fun p=>.pointer (some p)) (zJ rfl) (zF (zeroValue3 _) rfl) ?_
 intro p2 w2 hn2
 have E2:Pure w0 w2:=E1.trans (Ext.new hn2)
 have hb2:=hn2.at_size
 have B2:=Box.of_newA hn2
 refine uU (zJ rfl) (tK (a:=p2) (v:=.int .i64 at_) (by kernel_rfl) (by kernel_rfl) rfl (sizeOf3 _) (B2.canW0 (by simp))) ?_
 intro w3 hw3
 have hb3:=World.block_lt_of_cell? w1 p1 hp1
 have E3:Pure w0 w3:=E2.own (p:=p2) (by have:=E1.size;omega) (hw3▸Ext.setCell p2 _)
 have hp3:w3.cell? p1=some (.pointer (some r)):=by
  rw [hw3];exact (Ext.setCell p2 _).cell ((Ext.new (F:=None) hn2).cell hp1 id) (fun e=>by omega)
 have hf3:w3.cell? p2=some (.int .i64 at_):=by
  rw [hw3];exact (B2.set0).cell0
 refine zB ?_
 clear ha
 intro a ha
 refine jNZ ha (by decide) ?_
 clear ha
 intro a ha
 refine jLC ha ?_
 refine qK (by kernel_rfl) ?_
 refine qC 1 ?_
 refine q0 (.func (.func fd) #[] caps) ?_
 refine zB ?_
 refine jEG (zJ rfl) (by intro c hc;cases hc) (jNX (caps:=caps) (args:=#[]) (args':=caps) (by kernel_rfl) hc rfl (by simp)) ((hdo w3 p1 p2 E3 (by omega) (by have:=E1.size;omega) hp3 hf3).mono ?_)
 rintro e w4 (⟨rfl,hK⟩ | ⟨x,rfl,ha1,ha2,hw1,hw2,hw3',hK⟩)
 ·refine .inl ⟨_,rfl,?_⟩
  refine jQV ?_
  clear ha
  intro a ha
  show Leaves _ _ _ _ _ _ _
  rw [ha.defers]
  refine leaves_cons (f:=245) (args:=#[.pointer (some p2),.pointer (some p1)]) (by simp) (jTC call245 (by simp [evE,put,upd])) ?_
  refine (jQC p2 p1 w4).mono ?_
  rintro e u' w5 ⟨rfl,rfl,rfl⟩
  exact ⟨_,results_none results227 _ _ _,rfl,hK⟩
 ·refine .inr ⟨_,rfl,?_⟩
  intro ρ' 
  clear ha
  intro a ha
  show Leaves _ _ _ _ _ _ _
  rw [ha.defers]
  refine leaves_cons (f:=245) (args:=#[.pointer (some p2),.pointer (some p1)]) (by simp) (jTC call245 (by simp [evE,put,upd])) ?_
  refine (jSN p2 p1 r at_ x [] w4 ha2 ha1 hw1 hw2 hw3').mono ?_
  rintro e u' w5 ⟨rfl,rfl,rfl⟩
  exact ⟨_,results_none results227 _ _ _,rfl,hK⟩
structure RdAt (S:NP) (w:World) (a:Addr) (s:Sl) (bs:List UInt8) (at_ err spot:Int):Prop where
 box:Box w a [s.v,.int .i64 at_,.int .i64 err,.int .i64 spot] 258
 lst:Lst S w 1 s (byr bs)
 apart:∀b,S b→b≠a.block
 small:bs.length≤100000000000
 room:s.len≤s.cap
def jSB (e:Int):List PanicEntry:=[{ v:=.iface 274 (.int .i64 e),recovered:=false }]
section
variable {S:NP} {w w':World} {a:Addr} {s:Sl} {bs:List UInt8} {at_ err spot:Int}
theorem RdAt.ext {F:NP} (h:RdAt S w a s bs at_ err spot) (E:Ext F w w') (hF:∀b,S b→¬ F b) (ha:¬ F a.block):RdAt S w' a s bs at_ err spot :=
 ⟨h.box.ext E ha,h.lst.ext E hF,h.apart,h.small,h.room⟩
theorem RdAt.pure (h:RdAt S w a s bs at_ err spot) (E:Pure w w'):RdAt S w' a s bs at_ err spot:=h.ext E (fun _ _ h=>h) id
theorem RdAt.atC (h:RdAt S w a s bs at_ err spot):w.cell? (a.add 1)=some (.int .i64 at_):=h.box.cell (i:=1) rfl
theorem RdAt.errC (h:RdAt S w a s bs at_ err spot):w.cell? (a.add 2)=some (.int .i64 err):=h.box.cell (i:=2) rfl
theorem RdAt.setAt (h:RdAt S w a s bs at_ err spot) (k:Int):RdAt S (w.setCell (a.add 1) (.int .i64 k)) a s bs k err spot :=
 ⟨h.box.set 1 _,h.lst.ext (Ext.setCell _ _) (fun b hb e=>h.apart b hb (by rw [zP] at e;exact e)),h.apart,h.small,h.room⟩
theorem RdAt.setErr (h:RdAt S w a s bs at_ err spot) (k:Int):RdAt S (w.setCell (a.add 2) (.int .i64 k)) a s bs at_ k spot :=
 ⟨h.box.set 2 _,h.lst.ext (Ext.setCell _ _) (fun b hb e=>h.apart b hb (by rw [zP] at e;exact e)),h.apart,h.small,h.room⟩
theorem RdAt.setSpot (h:RdAt S w a s bs at_ err spot) (k:Int):RdAt S (w.setCell (a.add 3) (.int .i64 k)) a s bs at_ err k :=
 ⟨h.box.set 3 _,h.lst.ext (Ext.setCell _ _) (fun b hb e=>h.apart b hb (by rw [zP] at e;exact e)),h.apart,h.small,h.room⟩
theorem qP {k:Nat} {v:Value}:Ext (·=a.block) w (w.setCell (a.add k) v):=(Ext.setCell _ _).mono (fun i _ e=>by rw [zP] at e;exact e)
end
theorem jTI {S:NP} (a:Addr) (s:Sl) (bs:List UInt8) (at_:Nat) (err spot:Int) (w0:World) (h:RdAt S w0 a s bs at_ err spot) (hat:at_≤bs.length) :
  Calls prog 241 #[.pointer (some a)] w0 (fun e w'=>(∃hlt:at_<bs.length,e=.returned (.int .u8 (bs[at_].toNat:Int))∧RdAt S w' a s bs ((at_+1:Nat):Int) err spot∧Ext (·=a.block) w0 w') ∨
   (at_=bs.length∧e=.panicked (jSB 3)∧RdAt S w' a s bs at_ err spot∧Ext (·=a.block) w0 w')):=by
 refine (w_M1 (some a) w0 (fun o r w'=>(∃hlt:at_<bs.length,o=none∧r=(bs[at_].toNat:Int)∧RdAt S w' a s bs ((at_+1:Nat):Int) err spot∧Ext (·=a.block) w0 w')∨(at_=bs.length∧o=some (jSB 3)∧RdAt S w' a s bs at_ err spot∧Ext (·=a.block) w0 w')) ?_).mono ?_
 ·unfold m_M1
  refine ⟨a,rfl,fun w1 hs=>?_⟩
  have h1:=h.pure hs.first
  have hl:s.len=bs.length:=by rw [h.lst.len,vP]
  refine ⟨_,h1.atC,a,rfl,s,h1.box.cell0,fun hc=>?_,fun hc=>?_⟩
  ·have:at_=bs.length:=by have:=beq_iff_eq.1 hc;omega
   exact .inr ⟨this,rfl,h1,Ext.pure hs.first⟩
  ·have hne:at_≠bs.length:=by have:=beq_eq_false_iff_ne.1 hc;omega
   have hlt:at_<bs.length:=by omega
   unfold m_M1_j1
   refine ⟨a,rfl,_,h1.atC,a,rfl,h1.box.canW (i:=1) (by simp),id,?_⟩
   rintro w2 rfl
   have hw:IntKind.i64.wrap ((at_:Int)+1)=((at_+1:Nat):Int):=vQ hlt (by have:=h.small;omega)
   rw [hw]
   have h2:=h1.setAt ((at_+1:Nat):Int)
   refine ⟨a,rfl,fun w3 hs3=>?_⟩
   have h3:=h2.pure hs3.ext
   have hw2:IntKind.i64.wrap (((at_+1:Nat):Int) - 1)=(at_:Int):=by
    rw [IntWalk.i64_in _ (by have:=h.small;omega)];omega
   obtain ⟨c,hc1,_,hc3⟩:=jMA h3.lst hlt
   refine ⟨s,h3.box.cell0,a,rfl,_,h3.atC,c,?_,_,hc3,.inl ⟨hlt,rfl,rfl,h3,((Ext.pure hs.first).trans qP).thenPure hs3.ext⟩⟩
   rw [hw2];exact hc1
 ·rintro e w' (⟨r,rfl,h⟩ | ⟨ch,rfl,h⟩)
  ·rcases h with ⟨hlt,_,rfl,h⟩ | ⟨_,h,_⟩
   ·exact .inl ⟨hlt,rfl,h⟩
   ·cases h
  ·rcases h with ⟨hlt,h,_⟩ | ⟨h1,h2,h⟩
   ·cases h
   ·cases h2;exact .inr ⟨h1,rfl,h⟩
theorem c_num {S:NP} (a:Addr) (s:Sl) (bs:List UInt8) (at_:Nat) (err spot:Int) (w0:World) (h:RdAt S w0 a s bs at_ err spot) (hat:at_≤bs.length) :
  Calls prog 229 #[.pointer (some a)] w0 (fun e w'=>(∃n k:Nat,uV 0 0 (bs.drop at_)=.ok (n,k)∧e=.returned (.int .u64 (n:Int))∧n<18446744073709551616∧at_+k≤bs.length∧RdAt S w' a s bs ((at_+k:Nat):Int) err spot∧Ext (·=a.block) w0 w') ∨
   (∃x:Nat,∃at':Int,uV 0 0 (bs.drop at_)=.error x∧e=.panicked (jSB x)∧RdAt S w' a s bs at' err spot∧Ext (·=a.block) w0 w')):=by
 refine (w_Y (some a) w0 (fun o r w' => (∃ n k : Nat, uV 0 0 (bs.drop at_) = .ok (n, k) ∧ o = none ∧ r = (n : Int) ∧ n < 18446744073709551616 ∧ at_ + k ≤ bs.length ∧ RdAt S w' a s bs ((at_ + k : Nat) : Int) err spot ∧ Ext (· = a.block) w0 w') ∨
   (∃x:Nat,∃at':Int,uV 0 0 (bs.drop at_)=.error x∧o=some (jSB x)∧RdAt S w' a s bs at' err spot∧Ext (·=a.block) w0 w')) ?_).mono ?_
 ·unfold m_Y
  refine ⟨fun n i w=>∃acc k:Nat,n=(acc:Int)∧i=(k:Int)∧k≤9∧acc<2 ^ (7*k)∧at_+k≤bs.length∧uV k acc (bs.drop (at_+k))=uV 0 0 (bs.drop at_)∧RdAt S w a s bs ((at_+k:Nat):Int) err spot∧Ext (·=a.block) w0 w,fun _ i _=>(10 - i).toNat,⟨0,0,rfl,rfl,by omega,by simp,by simpa using hat,rfl,by simpa using h,Ext.refl _⟩,?_⟩
  rintro _ _ wl ⟨acc,k,rfl,rfl,hk,hacc,hle,hrd,hR,hE⟩
  unfold m_Y_l1
  refine (jTI a s bs (at_+k) err spot wl hR hle).mono ?_
  rintro e w1 (⟨hlt,rfl,hR1,hE1⟩ | ⟨heq,rfl,hR1,hE1⟩)
  ·refine .inl ⟨_,rfl,?_⟩
   have hdrop:bs.drop (at_+k)=bs[at_+k] :: bs.drop (at_+k+1):=List.drop_eq_getElem_cons hlt
   generalize hcc:bs[at_+k]=c at *
   have hc:=c.toNat_lt
   rw [hdrop,xZ] at hrd
   refine ⟨fun hb=>?_,fun hb=>?_⟩
   ·have hb':k=9∧1<c.toNat:=by simp at hb;omega
    rw [if_pos hb'] at hrd
    exact .inr ⟨11,_,hrd.symm,rfl,hR1,hE.trans hE1⟩
   ·have hb':¬ (k=9∧1<c.toNat):=by intro hh;simp at hb;omega
    rw [if_neg hb'] at hrd
    have hpw:c.toNat % 128*2 ^ (7*k)<18446744073709551616:=by
     by_cases h9:k=9
     ·subst h9;omega
     ·have h8:2 ^ (7*k)≤2 ^ 56:=Nat.pow_le_pow_right (by omega) (by omega);have h127:c.toNat % 128≤127:=by omega
      calc c.toNat % 128*2 ^ (7*k)≤127*2 ^ 56:=Nat.mul_le_mul h127 h8
       _<18446744073709551616:=by decide
    have hac:acc<18446744073709551616:=Nat.lt_of_lt_of_le hacc (by
     calc 2 ^ (7*k)≤2 ^ 63:=Nat.pow_le_pow_right (by omega) (by omega)
      _≤18446744073709551616:=by decide)
    have h7:IntKind.i64.wrap (7*(k:Int))=((7*k:Nat):Int):=by rw [IntWalk.i64_in _ (by omega)];simp
    have h128:128 ^ k=2 ^ (7*k):=by rw [Nat.pow_mul]
    have hsum:acc ||| (c.toNat % 128*2 ^ (7*k))=acc+c.toNat % 128*2 ^ (7*k):=jSY hacc
    have hsl:acc+c.toNat % 128*2 ^ (7*k)<18446744073709551616:=by
     rw [← hsum];exact Nat.or_lt_two_pow (n:=64) hac hpw
    unfold m_Y_j2
    rw [h7]
    refine ⟨_,jMP c.toNat hc,_,by rw [vV (by omega)];exact jTZ _ _ (by omega) hpw,_,jRF _ _ hac hpw,?_⟩
    rw [hsum]
    refine ⟨fun hs=>?_,fun hs=>?_⟩
    ·have hs':c.toNat<128:=by have:=of_decide_eq_true hs;omega
     rw [if_pos hs'] at hrd
     refine ⟨fun hz=>?_,fun hz=>?_⟩
     ·have hz':c.toNat=0∧0<k:=by simp at hz;omega
      rw [if_pos hz'] at hrd
      exact .inr ⟨10,_,hrd.symm,rfl,hR1,hE.trans hE1⟩
     ·have hz':¬ (c.toNat=0∧0<k):=by intro hh;simp at hz;omega
      rw [if_neg hz',h128] at hrd
      rw [Nat.mod_eq_of_lt hs'] at hsl ⊢
      exact .inl ⟨_,k+1,hrd.symm,rfl,rfl,hsl,by omega,hR1,hE.trans hE1⟩
    ·have hs':¬ c.toNat<128:=by have:=of_decide_eq_false hs;omega
     rw [if_neg hs',h128] at hrd
     have hk9:k≠9:=by omega
     rw [vQ (n:=10) (by omega) (by omega)]
     refine ⟨⟨_,k+1,rfl,rfl,by omega,?_,by omega,hrd,hR1,hE.trans hE1⟩,by show (10 - ((k+1:Nat):Int)).toNat<(10 - (k:Int)).toNat;omega⟩
     have:2 ^ (7*(k+1))=128*2 ^ (7*k):=by rw [Nat.mul_add,Nat.pow_add];omega
     rw [this]
     have h127:c.toNat % 128*2 ^ (7*k)≤127*2 ^ (7*k):=Nat.mul_le_mul_right _ (by omega)
     omega
  ·refine .inr ⟨_,rfl,.inr ⟨3,_,?_,rfl,hR1,hE.trans hE1⟩⟩
   rw [← hrd,heq,List.drop_length];rfl
 ·rintro e w' (⟨r,rfl,h⟩ | ⟨ch,rfl,h⟩)
  ·rcases h with ⟨n,k,h1,_,rfl,h⟩ | ⟨_,_,_,h,_⟩
   ·exact .inl ⟨n,k,h1,rfl,h⟩
   ·cases h
  ·rcases h with ⟨n,k,h1,h,_⟩ | ⟨x,at',h1,h2,h⟩
   ·cases h
   ·cases h2;exact .inr ⟨x,at',h1,rfl,h⟩
abbrev RdS (S:NP) (w:World) (a:Addr) (s:Sl) (bs:List UInt8) (r:Rd):Prop:=RdAt S w a s bs r.at_ r.err r.spot
theorem jCU {w:World} {p:Addr} {u v:Value} {T:TypeId} (h:Box w p [u] T):Box (w.setCell p v) p [v] T:=h.set0
theorem RdAt.gives {S:NP} {w:World} {a:Addr} {s:Sl} {bs:List UInt8} {at_ err spot:Int} (h:RdAt S w a s bs at_ err spot) (f e:Int) :
  zQ w (a.add 1)∧zQ w (a.add 2)∧zQ w (a.add 3)∧RdAt S (((w.setCell (a.add 1) (.int .i64 f)).setCell (a.add 2) (.int .i64 e)).setCell (a.add 3) (.int .i64 f)) a s bs f e f :=
 ⟨h.box.canW (i:=1) (by simp),h.box.canW (i:=2) (by simp),h.box.canW (i:=3) (by simp),((h.setAt f).setErr e).setSpot f⟩
theorem jAL {w:World} {a:Addr} {u v x:Value}:Ext (·=a.block) w (((w.setCell (a.add 1) u).setCell (a.add 2) v).setCell (a.add 3) x):=(qP.trans qP).trans qP
theorem jJJ {S:NP} (a:Addr) (s:Sl) (bs:List UInt8) (r:Rd) (w0:World) (h:RdS S w0 a s bs r) (hat:r.at_≤bs.length) (hS:∀b,S b→b<w0.heap.size) :
  Calls prog 185 #[.pointer (some a)] w0 (fun e w'=>∃x:Int,e=.returned (.int .u64 x)∧x=((qN bs r).1:Int)∧RdS S w' a s bs (qN bs r).2∧Ext (·=a.block) w0 w'):=by
 refine w_H4 (some a) w0 (fun x w'=>x=((qN bs r).1:Int)∧RdS S w' a s bs (qN bs r).2∧Ext (·=a.block) w0 w') ?_
 unfold m_H4
 intro p1 w1 n1 p2 w2 n2
 have E1:Pure w0 w1:=Ext.new n1
 have E2:Pure w0 w2:=E1.trans (Ext.new n2)
 have hp1:w2.cell? p1=some (.pointer (some a)):=(Ext.new (F:=None) n2).cell (Box.of_newA n1).cell0 id
 have b1:=n1.at_size
 have b2:=n2.at_size
 have b12:p1.block≠p2.block:=by have:=World.block_lt_of_cell? w1 p1 (Box.of_newA n1).cell0;omega
 have ha0:=World.block_lt_of_cell? w0 a h.box.cell0
 have B2:=Box.of_newA n2
 have h2:=h.pure E2
 refine ⟨some a,hp1,?_⟩
 have fin:∀w3,(Box w3 p2 [.int .u64 ((qN bs r).1:Int)] 26∧RdS S w3 a s bs (qN bs r).2∧Ext (·=a.block) w0 w3)→∃v2:Int,w3.cell? p2=some (.int .u64 v2)∧zQ w3 p2∧∀w4:World,w4=w3.setCell p2 (.int .u64 v2)→∃qV1:Int,w4.cell? p2=some (.int .u64 qV1)∧(qV1=((qN bs r).1:Int)∧RdS S w4 a s bs (qN bs r).2∧Ext (·=a.block) w0 w4):=by
  rintro w3 ⟨hB,hR,hE⟩;refine ⟨_,hB.cell0,hB.canW0 (by simp),?_⟩;rintro w4 rfl;have hx:Ext (·=p2.block) w3 (w3.setCell p2 (.int .u64 ((qN bs r).1:Int))):=Ext.setCell _ _;exact ⟨_,(jCU hB).cell0,rfl,hR.ext hx (fun b hb e=>by have:=hS b hb;have:=E1.size;omega) (fun e=>by have:=E1.size;omega),hE.trans' hx (fun i hi e=>by have:=E1.size;omega)⟩
 by_cases he:r.err=0
 ·refine (jKX a 228 _ r.at_ w2 (fun w3=>Box w3 p2 [.int .u64 ((qN bs r).1:Int)] 26∧RdS S w3 a s bs (qN bs r).2∧Ext (·=a.block) w0 w3) h2.atC (by have:=h2.errC;rw [he] at this;exact this) call228 ?_).mono ?_
  ·intro w3 p pf E3 hp hpf hpc hpfc
   have h3:=h2.pure E3
   refine (w_V4 p1 p2 w3 (fun o w4=>(o=none∧(Box w4 p2 [.int .u64 ((qN bs r).1:Int)] 26∧RdS S w4 a s bs (qN bs r).2∧Ext (·=a.block) w0 w4))∨(∃x,o=some (jSB x)∧w4.cell? p=some (.pointer (some a))∧w4.cell? pf=some (.int .i64 r.at_)∧zQ w4 (a.add 1)∧zQ w4 (a.add 2)∧zQ w4 (a.add 3) ∧
    (Box (((w4.setCell (a.add 1) (.int .i64 r.at_)).setCell (a.add 2) (.int .i64 x)).setCell (a.add 3) (.int .i64 r.at_)) p2 [.int .u64 ((qN bs r).1:Int)] 26∧RdS S (((w4.setCell (a.add 1) (.int .i64 r.at_)).setCell (a.add 2) (.int .i64 x)).setCell (a.add 3) (.int .i64 r.at_)) a s bs (qN bs r).2∧Ext (·=a.block) w0 (((w4.setCell (a.add 1) (.int .i64 r.at_)).setCell (a.add 2) (.int .i64 x)).setCell (a.add 3) (.int .i64 r.at_))))) ?_).mono ?_
   ·unfold m_V4
    refine ⟨some a,E3.cell hp1 id,?_⟩
    refine (c_num a s bs r.at_ r.err r.spot w3 h3 hat).mono ?_
    rintro e w4 (⟨n,k,hn,rfl,hlt,hle,hR,hE⟩ | ⟨x,at',hn,rfl,hR,hE⟩)
    ·refine .inl ⟨_,rfl,?_⟩
     have hB4:Box w4 p2 [.int .u64 0] 26:=(B2.pure E3).ext hE (fun e=>by have:=E1.size;omega)
     refine ⟨hB4.canW0 (by simp),?_⟩
     rintro w5 rfl
     have hx:Ext (·=p2.block) w4 (w4.setCell p2 (.int .u64 (n:Int))):=Ext.setCell _ _
     have hrn:qN bs r=(n,⟨r.at_+k,0,r.spot⟩):=by simp [qN,he,hn]
     rw [hrn]
     refine .inl ⟨rfl,jCU hB4,?_,((Ext.pure (E2.trans E3)).trans hE).trans' hx (fun i hi e=>by have:=E1.size;omega)⟩
     have:=hR.ext hx (fun b hb e=>by have:=hS b hb;have:=E1.size;omega) (fun e=>by have:=E1.size;omega)
     rw [he] at this
     exact this
    ·refine .inr ⟨_,rfl,.inr ⟨x,rfl,?_⟩⟩
     have hrn:qN bs r=(0,⟨r.at_,x,r.at_⟩):=by simp [qN,he,hn]
     have hB4:Box w4 p2 [.int .u64 0] 26:=(B2.pure E3).ext hE (fun e=>by have:=E1.size;omega)
     obtain ⟨c1,c2,c3,hR'⟩:=hR.gives r.at_ x
     rw [hrn]
     exact ⟨hE.cell hpc (fun e=>by have:=E2.size;omega),hE.cell hpfc (fun e=>by have:=E2.size;omega),c1,c2,c3,hB4.ext jAL (fun e=>by have:=E1.size;omega),hR',((Ext.pure (E2.trans E3)).trans hE).trans jAL⟩
   ·rintro e w4 (⟨rfl,h⟩ | ⟨ch,rfl,h⟩)
    ·rcases h with ⟨_,h⟩ | ⟨_,h,_⟩
     ·exact .inl ⟨rfl,h⟩
     ·cases h
    ·rcases h with ⟨h,_⟩ | ⟨x,h1,h⟩
     ·cases h
     ·cases h1;exact .inr ⟨x,rfl,h⟩
  ·rintro e w3 ⟨rfl,hK⟩
   exact ⟨rfl,fin w3 hK⟩
 ·refine (jCS a _ r.err w2 h2.errC (by omega)).mono ?_
  rintro e w3 ⟨rfl,E3⟩
  have hrn:qN bs r=(0,r):=by simp [qN,he]
  refine ⟨rfl,fin w3 ?_⟩
  rw [hrn]
  exact ⟨B2.pure E3,h2.pure E3,Ext.pure (E2.trans E3)⟩
theorem c_Byte {S:NP} (a:Addr) (s:Sl) (bs:List UInt8) (r:Rd) (w0:World) (h:RdS S w0 a s bs r) (hat:r.at_≤bs.length) (hS:∀b,S b→b<w0.heap.size) :
  Calls prog 212 #[.pointer (some a)] w0 (fun e w'=>∃x:Int,e=.returned (.int .u8 x)∧x=((yT bs r).1:Int)∧RdS S w' a s bs (yT bs r).2∧Ext (·=a.block) w0 w'):=by
 refine w_A4 (some a) w0 (fun x w'=>x=((yT bs r).1:Int)∧RdS S w' a s bs (yT bs r).2∧Ext (·=a.block) w0 w') ?_
 unfold m_A4
 intro p1 w1 n1 p2 w2 n2
 have E1:Pure w0 w1:=Ext.new n1
 have E2:Pure w0 w2:=E1.trans (Ext.new n2)
 have hp1:w2.cell? p1=some (.pointer (some a)):=(Ext.new (F:=None) n2).cell (Box.of_newA n1).cell0 id
 have b1:=n1.at_size
 have b2:=n2.at_size
 have b12:p1.block≠p2.block:=by have:=World.block_lt_of_cell? w1 p1 (Box.of_newA n1).cell0;omega
 have ha0:=World.block_lt_of_cell? w0 a h.box.cell0
 have B2:=Box.of_newA n2
 have h2:=h.pure E2
 refine ⟨some a,hp1,?_⟩
 have fin:∀w3,(Box w3 p2 [.int .u8 ((yT bs r).1:Int)] 5∧RdS S w3 a s bs (yT bs r).2∧Ext (·=a.block) w0 w3)→∃v2:Int,w3.cell? p2=some (.int .u8 v2)∧zQ w3 p2∧∀w4:World,w4=w3.setCell p2 (.int .u8 v2)→∃qV1:Int,w4.cell? p2=some (.int .u8 qV1)∧(qV1=((yT bs r).1:Int)∧RdS S w4 a s bs (yT bs r).2∧Ext (·=a.block) w0 w4):=by
  rintro w3 ⟨hB,hR,hE⟩;refine ⟨_,hB.cell0,hB.canW0 (by simp),?_⟩;rintro w4 rfl;have hx:Ext (·=p2.block) w3 (w3.setCell p2 (.int .u8 ((yT bs r).1:Int))):=Ext.setCell _ _;exact ⟨_,(jCU hB).cell0,rfl,hR.ext hx (fun b hb e=>by have:=hS b hb;have:=E1.size;omega) (fun e=>by have:=E1.size;omega),hE.trans' hx (fun i hi e=>by have:=E1.size;omega)⟩
 by_cases he:r.err=0
 ·refine (jKX a 240 _ r.at_ w2 (fun w3=>Box w3 p2 [.int .u8 ((yT bs r).1:Int)] 5∧RdS S w3 a s bs (yT bs r).2∧Ext (·=a.block) w0 w3) h2.atC (by have:=h2.errC;rw [he] at this;exact this) call240 ?_).mono ?_
  ·intro w3 p pf E3 hp hpf hpc hpfc
   have h3:=h2.pure E3
   refine (w_W4 p1 p2 w3 (fun o w4=>(o=none∧(Box w4 p2 [.int .u8 ((yT bs r).1:Int)] 5∧RdS S w4 a s bs (yT bs r).2∧Ext (·=a.block) w0 w4))∨(∃x,o=some (jSB x)∧w4.cell? p=some (.pointer (some a))∧w4.cell? pf=some (.int .i64 r.at_)∧zQ w4 (a.add 1)∧zQ w4 (a.add 2)∧zQ w4 (a.add 3) ∧
    (Box (((w4.setCell (a.add 1) (.int .i64 r.at_)).setCell (a.add 2) (.int .i64 x)).setCell (a.add 3) (.int .i64 r.at_)) p2 [.int .u8 ((yT bs r).1:Int)] 5∧RdS S (((w4.setCell (a.add 1) (.int .i64 r.at_)).setCell (a.add 2) (.int .i64 x)).setCell (a.add 3) (.int .i64 r.at_)) a s bs (yT bs r).2∧Ext (·=a.block) w0 (((w4.setCell (a.add 1) (.int .i64 r.at_)).setCell (a.add 2) (.int .i64 x)).setCell (a.add 3) (.int .i64 r.at_))))) ?_).mono ?_
   ·unfold m_W4
    refine ⟨some a,E3.cell hp1 id,?_⟩
    refine (jTI a s bs r.at_ r.err r.spot w3 h3 hat).mono ?_
    rintro e w4 (⟨hlt,rfl,hR,hE⟩ | ⟨heq,rfl,hR,hE⟩)
    ·refine .inl ⟨_,rfl,?_⟩
     have hB4:Box w4 p2 [.int .u8 0] 5:=(B2.pure E3).ext hE (fun e=>by have:=E1.size;omega)
     refine ⟨hB4.canW0 (by simp),?_⟩
     rintro w5 rfl
     have hx:Ext (·=p2.block) w4 (w4.setCell p2 (.int .u8 (bs[r.at_].toNat:Int))):=Ext.setCell _ _
     have hrn:yT bs r=(bs[r.at_].toNat,⟨r.at_+1,0,r.spot⟩):=by simp [yT,he,hlt]
     rw [hrn]
     refine .inl ⟨rfl,jCU hB4,?_,((Ext.pure (E2.trans E3)).trans hE).trans' hx (fun i hi e=>by have:=E1.size;omega)⟩
     have:=hR.ext hx (fun b hb e=>by have:=hS b hb;have:=E1.size;omega) (fun e=>by have:=E1.size;omega)
     rw [he] at this
     exact this
    ·refine .inr ⟨_,rfl,.inr ⟨3,rfl,?_⟩⟩
     have hrn:yT bs r=(0,⟨r.at_,3,r.at_⟩):=by simp [yT,he,heq]
     have hB4:Box w4 p2 [.int .u8 0] 5:=(B2.pure E3).ext hE (fun e=>by have:=E1.size;omega)
     obtain ⟨c1,c2,c3,hR'⟩:=hR.gives r.at_ 3
     rw [hrn]
     exact ⟨hE.cell hpc (fun e=>by have:=E2.size;omega),hE.cell hpfc (fun e=>by have:=E2.size;omega),c1,c2,c3,hB4.ext jAL (fun e=>by have:=E1.size;omega),hR',((Ext.pure (E2.trans E3)).trans hE).trans jAL⟩
   ·rintro e w4 (⟨rfl,h⟩ | ⟨ch,rfl,h⟩)
    ·rcases h with ⟨_,h⟩ | ⟨_,h,_⟩
     ·exact .inl ⟨rfl,h⟩
     ·cases h
    ·rcases h with ⟨h,_⟩ | ⟨x,h1,h⟩
     ·cases h
     ·cases h1;exact .inr ⟨x,rfl,h⟩
  ·rintro e w3 ⟨rfl,hK⟩
   exact ⟨rfl,fin w3 hK⟩
 ·refine (jCS a _ r.err w2 h2.errC (by omega)).mono ?_
  rintro e w3 ⟨rfl,E3⟩
  have hrn:yT bs r=(0,r):=by simp [yT,he]
  refine ⟨rfl,fin w3 ?_⟩
  rw [hrn]
  exact ⟨B2.pure E3,h2.pure E3,Ext.pure (E2.trans E3)⟩
theorem c_Text {S:NP} (a:Addr) (s:Sl) (bs:List UInt8) (most:Nat) (r:Rd) (w0:World) (h:RdS S w0 a s bs r) (hat:r.at_≤bs.length) (hS:∀b,S b→b<w0.heap.size) (hm:most≤1000000000) :
  Calls prog 193 #[.pointer (some a),.int .i64 (most:Int)] w0 (fun e w'=>∃x:ByteArray,e=.returned (.string x)∧x=⟨(qQ bs most r).1.toArray⟩∧RdS S w' a s bs (qQ bs most r).2∧Ext (·=a.block) w0 w'):=by
 refine w_P4 (some a) most w0 (fun x w'=>x=⟨(qQ bs most r).1.toArray⟩∧RdS S w' a s bs (qQ bs most r).2∧Ext (·=a.block) w0 w') ?_
 unfold m_P4
 intro p1 w1 n1 pm w1' nm p2 w2 n2
 have E1:Pure w0 w1:=Ext.new n1
 have E1':Pure w0 w1':=E1.trans (Ext.new nm)
 have E2:Pure w0 w2:=E1'.trans (Ext.new n2)
 have hp1':w1'.cell? p1=some (.pointer (some a)):=(Ext.new (F:=None) nm).cell (Box.of_newA n1).cell0 id
 have hp1:w2.cell? p1=some (.pointer (some a)):=(Ext.new (F:=None) n2).cell hp1' id
 have hpm:w2.cell? pm=some (.int .i64 (most:Int)):=(Ext.new (F:=None) n2).cell (Box.of_newA nm).cell0 id
 have b1:=n1.at_size
 have bm:=nm.at_size
 have b2:=n2.at_size
 have b12:p1.block≠p2.block:=by have:=World.block_lt_of_cell? w1' p1 hp1';omega
 have ha0:=World.block_lt_of_cell? w0 a h.box.cell0
 have B2:=Box.of_newA n2
 have h2:=h.pure E2
 have g1:w0.heap.size≤p2.block:=by have:=E1'.size;omega
 have g2:w0.heap.size≤p1.block:=by omega
 have g3:w0.heap.size≤pm.block:=by have:=E1.size;omega
 refine ⟨some a,hp1,?_⟩
 have fin:∀w3,(Box w3 p2 [.string ⟨(qQ bs most r).1.toArray⟩] 9∧RdS S w3 a s bs (qQ bs most r).2∧Ext (·=a.block) w0 w3)→∃v2:ByteArray,w3.cell? p2=some (.string v2)∧zQ w3 p2∧∀w4:World,w4=w3.setCell p2 (.string v2)→∃qV1:ByteArray,w4.cell? p2=some (.string qV1)∧(qV1=⟨(qQ bs most r).1.toArray⟩∧RdS S w4 a s bs (qQ bs most r).2∧Ext (·=a.block) w0 w4):=by
  rintro w3 ⟨hB,hR,hE⟩;refine ⟨_,hB.cell0,hB.canW0 (by simp),?_⟩;rintro w4 rfl;have hx:Ext (·=p2.block) w3 (w3.setCell p2 (.string ⟨(qQ bs most r).1.toArray⟩)):=Ext.setCell _ _;exact ⟨_,(jCU hB).cell0,rfl,hR.ext hx (fun b hb e=>by have:=hS b hb;omega) (fun e=>by omega),hE.trans' hx (fun i hi e=>by omega)⟩
 by_cases he:r.err=0
 ·refine (jKX a 230 _ r.at_ w2 (fun w3=>Box w3 p2 [.string ⟨(qQ bs most r).1.toArray⟩] 9∧RdS S w3 a s bs (qQ bs most r).2∧Ext (·=a.block) w0 w3) h2.atC (by have:=h2.errC;rw [he] at this;exact this) call230 ?_).mono ?_
  ·intro w3 p pf E3 hp hpf hpc hpfc
   have h3:=h2.pure E3
   refine (w_S p1 pm p2 w3 (fun o w4=>(o=none∧(Box w4 p2 [.string ⟨(qQ bs most r).1.toArray⟩] 9∧RdS S w4 a s bs (qQ bs most r).2∧Ext (·=a.block) w0 w4))∨(∃x,o=some (jSB x)∧w4.cell? p=some (.pointer (some a))∧w4.cell? pf=some (.int .i64 r.at_)∧zQ w4 (a.add 1)∧zQ w4 (a.add 2)∧zQ w4 (a.add 3) ∧
    (Box (((w4.setCell (a.add 1) (.int .i64 r.at_)).setCell (a.add 2) (.int .i64 x)).setCell (a.add 3) (.int .i64 r.at_)) p2 [.string ⟨(qQ bs most r).1.toArray⟩] 9∧RdS S (((w4.setCell (a.add 1) (.int .i64 r.at_)).setCell (a.add 2) (.int .i64 x)).setCell (a.add 3) (.int .i64 r.at_)) a s bs (qQ bs most r).2∧Ext (·=a.block) w0 (((w4.setCell (a.add 1) (.int .i64 r.at_)).setCell (a.add 2) (.int .i64 x)).setCell (a.add 3) (.int .i64 r.at_))))) ?_).mono ?_
   ·unfold m_S
    refine ⟨some a,E3.cell hp1 id,?_⟩
    refine (c_num a s bs r.at_ r.err r.spot w3 h3 hat).mono ?_
    have give:∀(x:Nat) (at':Int) (w4:World),qQ bs most r=([],⟨r.at_,x,r.at_⟩)→RdAt S w4 a s bs at' r.err r.spot→Ext (·=a.block) w3 w4→(∃y,some (jSB x)=some (jSB y)∧w4.cell? p=some (.pointer (some a))∧w4.cell? pf=some (.int .i64 r.at_)∧zQ w4 (a.add 1)∧zQ w4 (a.add 2)∧zQ w4 (a.add 3) ∧
     (Box (((w4.setCell (a.add 1) (.int .i64 r.at_)).setCell (a.add 2) (.int .i64 y)).setCell (a.add 3) (.int .i64 r.at_)) p2 [.string ⟨(qQ bs most r).1.toArray⟩] 9∧RdS S (((w4.setCell (a.add 1) (.int .i64 r.at_)).setCell (a.add 2) (.int .i64 y)).setCell (a.add 3) (.int .i64 r.at_)) a s bs (qQ bs most r).2∧Ext (·=a.block) w0 (((w4.setCell (a.add 1) (.int .i64 r.at_)).setCell (a.add 2) (.int .i64 y)).setCell (a.add 3) (.int .i64 r.at_)))):=by
     intro x at' w4 hrn hR hE
     have hB4:Box w4 p2 [.string ⟨#[]⟩] 9:=(B2.pure E3).ext hE (fun e=>by omega)
     obtain ⟨c1,c2,c3,hR'⟩:=hR.gives r.at_ x
     rw [hrn]
     exact ⟨x,rfl,hE.cell hpc (fun e=>by have:=E2.size;omega),hE.cell hpfc (fun e=>by have:=E2.size;omega),c1,c2,c3,hB4.ext jAL (fun e=>by omega),hR',((Ext.pure (E2.trans E3)).trans hE).trans jAL⟩
    rintro e w4 (⟨n,k,hn,rfl,hlt,hle,hR,hE⟩ | ⟨x,at',hn,rfl,hR,hE⟩)
    ·refine .inl ⟨_,rfl,hE.kept (fun b hb=>hb.elim),_,hE.cell (E3.cell hpm id) (fun e=>by omega),fun hb=>?_,fun _=>⟨_,hE.cell (E3.cell hpm id) (fun e=>by omega),?_⟩⟩
     ·have:=of_decide_eq_true hb;omega
     ·rw [vV (by omega)]
      refine ⟨fun hb=>?_,fun hb=>?_⟩
      ·have hlt':most<n:=by have:=of_decide_eq_true hb;omega
       exact .inr (give 1 _ w4 (by simp [qQ,he,hn,hlt']) hR hE)
      ·have hlt':¬ most<n:=by have:=of_decide_eq_false hb;omega
       unfold m_S_j2
       intro w5 hs5
       have E5:=hs5.ext
       have hR5:=hR.pure E5
       have hp5:w5.cell? p1=some (.pointer (some a)):=E5.cell (hE.cell (E3.cell hp1 id) (fun e=>by omega)) id
       have hl:s.len=bs.length:=by rw [h.lst.len,vP]
       have hsm:=h.small
       have hE5:Ext (·=a.block) w3 w5:=hE.thenPure E5
       refine ⟨_,hp5,a,rfl,s,hR5.box.cell0,_,hp5,a,rfl,_,hR5.atC,?_⟩
       have hw1:IntKind.u64.wrap (IntKind.i64.wrap ((s.len:Int) - ((r.at_+k:Nat):Int)))=((bs.length - (r.at_+k):Nat):Int):=by
        rw [hl,IntWalk.i64_in _ (by omega),show ((bs.length:Int) - ((r.at_+k:Nat):Int))=((bs.length - (r.at_+k):Nat):Int) by omega,vV (by omega)]
       rw [hw1]
       refine ⟨fun hb2=>?_,fun hb2=>?_⟩
       ·have hg:bs.length<r.at_+k+n:=by have:=of_decide_eq_true hb2;omega
        exact .inr (give 3 _ w5 (by simp [qQ,he,hn,hlt',hg]) hR5 hE5)
       ·have hg:¬ bs.length<r.at_+k+n:=by have:=of_decide_eq_false hb2;omega
        have hrn:qQ bs most r=((bs.drop (r.at_+k)).take n,⟨r.at_+k+n,0,r.spot⟩):=by simp [qQ,he,hn,hlt',hg]
        unfold m_S_j3
        refine ⟨fun _=>True,trivial,?_⟩
        intro w6 hw6
        have E6:Pure w5 w6:=by rw [hw6];exact Ext.drew _
        have hR6:=hR5.pure E6
        have hp6:=E6.cell hp5 id
        have hn1:IntKind.i64.wrap (n:Int)=(n:Int):=IntWalk.i64_in _ (by omega)
        have hn2:IntKind.i64.wrap (((r.at_+k:Nat):Int)+(n:Int))=((r.at_+k+n:Nat):Int):=by rw [IntWalk.i64_in _ (by omega)];simp
        obtain ⟨s1,hr1,hL1⟩:=hR6.lst.sub (k:=.i64) (lo:=r.at_+k) (n:=n) jBN h.room (by rw [vP];omega)
        have hB6:Box w6 p2 [.string ⟨#[]⟩] 9:=((B2.pure E3).ext hE5 (fun e=>by omega)).pure E6
        have hL2:Lst S w6 1 s1 (byr ((bs.drop (r.at_+k)).take n)):=by
         have e:(List.drop (r.at_+k) (byr bs)).take n=byr ((bs.drop (r.at_+k)).take n):=by simp [byr,List.map_take,List.map_drop]
         rw [← e];exact hL1
        refine ⟨_,hp6,a,rfl,s,hR6.box.cell0,_,hp6,a,rfl,_,hR6.atC,_,hp6,a,rfl,_,hR6.atC,s1,by rw [hn1,hn2];exact hr1,_,jOP underlying54 underlying5 underlying9 hL2,hB6.canW0 (by simp),id,?_⟩
        rintro w7 rfl
        have hx:Ext (·=p2.block) w6 (w6.setCell p2 (.string ⟨((bs.drop (r.at_+k)).take n).toArray⟩)):=Ext.setCell _ _
        have hR7:=hR6.ext hx (fun b hb e=>by have:=hS b hb;omega) (fun e=>by omega)
        refine ⟨_,hx.cell hp6 (fun e=>b12 e),a,rfl,_,hR7.atC,a,rfl,hR7.box.canW (i:=1) (by simp),id,?_⟩
        rintro w8 rfl
        rw [hn1,hn2,hrn]
        have hR8:=hR7.setAt ((r.at_+k+n:Nat):Int)
        rw [he] at hR8
        exact .inl ⟨rfl,(jCU hB6).ext qP (fun e=>by omega),hR8,((((Ext.pure (E2.trans E3)).trans hE5).thenPure E6).trans' hx (fun i hi e=>by omega)).trans qP⟩
    ·exact .inr ⟨_,rfl,.inr (give x at' w4 (by simp [qQ,he,hn]) hR hE)⟩
   ·rintro e w4 (⟨rfl,h⟩ | ⟨ch,rfl,h⟩)
    ·rcases h with ⟨_,h⟩ | ⟨_,h,_⟩
     ·exact .inl ⟨rfl,h⟩
     ·cases h
    ·rcases h with ⟨h,_⟩ | ⟨x,h1,h⟩
     ·cases h
     ·cases h1;exact .inr ⟨x,rfl,h⟩
  ·rintro e w3 ⟨rfl,hK⟩
   exact ⟨rfl,fin w3 hK⟩
 ·refine (jCS a _ r.err w2 h2.errC (by omega)).mono ?_
  rintro e w3 ⟨rfl,E3⟩
  have hrn:qQ bs most r=([],r):=by simp [qQ,he]
  refine ⟨rfl,fin w3 ?_⟩
  rw [hrn]
  exact ⟨B2.pure E3,h2.pure E3,Ext.pure (E2.trans E3)⟩
theorem jRB {w:World} {e:TypeId} {sz:Nat} {s:Sl} {rs:List (List Value)} (h:Rws w e sz s rs):s.len≤s.cap:=by
 rcases h.own with ⟨rfl,_⟩ | ⟨g,cur,_,_,hc,_⟩
 ·exact Nat.le_refl _
 ·rw [h.len];exact hc
theorem c_cNew {S:NP} (s:Sl) (bs:List UInt8) (w0:World) (hs:Lst S w0 1 s (byr bs)) (hz:s.a=none→s=Sl.nil) (hn:bs.length≤100000000000) :
  Calls prog 163 #[s.v] w0 (fun e w'=>∃x:Option Addr,e=.returned (.pointer x)∧∃a s',x=some a∧RdS s'.blk w' a s' bs ⟨0,0,0⟩∧Pure w0 w'∧w0.heap.size≤a.block∧(∀b,s'.blk b→w0.heap.size≤b∧b<w'.heap.size)):=by
 refine w_X3 _ w0 (fun x w'=>∃a s',x=some a∧RdS s'.blk w' a s' bs ⟨0,0,0⟩∧Pure w0 w'∧w0.heap.size≤a.block∧(∀b,s'.blk b→w0.heap.size≤b∧b<w'.heap.size)) ?_
 unfold m_X3
 refine (jJI s bs w0 hs hz hn).mono ?_
 rintro _ w1 ⟨r1,rfl,hR⟩
 refine ⟨r1,rfl,fun p2 w2 n2=>⟨p2,r1,rfl,?_,hR.pure.trans (Ext.new n2),by rw [n2.at_size];exact hR.pure.size,fun b hb=>⟨hR.own b hb,?_⟩⟩⟩
 ·have hb1:∀b,r1.blk b→b<w1.heap.size:=fun b hb=>hR.rows.lt hb
  exact ⟨Box.of_newA n2,(hR.rows.pure (Ext.new n2)).lst,fun b hb e=>by have:=hb1 b hb;have:=n2.at_size;omega,hn,jRB hR.rows⟩
 ·exact (hR.rows.pure (Ext.new n2)).lt hb
theorem c_Left {S:NP} (a:Addr) (s:Sl) (bs:List UInt8) (r:Rd) (w0:World) (h:RdS S w0 a s bs r) (hat:r.at_≤bs.length) :
  Calls prog 164 #[.pointer (some a)] w0 (fun e w'=>∃x:Int,e=.returned (.int .i64 x)∧x=((bs.length - r.at_:Nat):Int)∧Pure w0 w'):=by
 refine w_Y3 (some a) w0 (fun x w'=>x=((bs.length - r.at_:Nat):Int)∧Pure w0 w') ?_
 unfold m_Y3
 refine ⟨fun hb=>(by cases hb),fun _=>⟨a,rfl,fun w1 hs=>?_⟩⟩
 have h1:=h.pure hs.first
 have hl:s.len=bs.length:=by rw [h.lst.len,vP]
 refine ⟨s,h1.box.cell0,a,rfl,_,h1.atC,?_,hs.first⟩
 rw [hl,IntWalk.i64_in _ (by have:=h.small;omega)];omega
theorem c_At {S:NP} (a:Addr) (s:Sl) (bs:List UInt8) (r:Rd) (w0:World) (h:RdS S w0 a s bs r) :
  Calls prog 165 #[.pointer (some a)] w0 (fun e w'=>∃x:Int,e=.returned (.int .i64 x)∧x=(r.at_:Int)∧w'=w0):=by
 refine w_Z3 (some a) w0 (fun x w'=>x=(r.at_:Int)∧w'=w0) ?_
 unfold m_Z3
 exact ⟨fun hb=>(by cases hb),fun _=>⟨a,rfl,_,h.atC,rfl,rfl⟩⟩
theorem c_Why {S:NP} (a:Addr) (s:Sl) (bs:List UInt8) (r:Rd) (w0:World) (h:RdS S w0 a s bs r) :
  Calls prog 213 #[.pointer (some a)] w0 (fun e w'=>∃x y:Int,e=.returned (.tuple #[.int .i64 x,.int .i64 y])∧x=(r.err:Int)∧y=(r.spot:Int)∧Pure w0 w'):=by
 refine w_B4 (some a) w0 (fun x y w'=>x=(r.err:Int)∧y=(r.spot:Int)∧Pure w0 w') ?_
 unfold m_B4
 refine ⟨fun hb=>(by cases hb),fun _=>⟨a,rfl,fun w1 hs=>?_⟩⟩
 have h1:=h.pure hs.first
 exact ⟨_,h1.errC,a,rfl,_,h1.box.cell (i:=3) rfl,rfl,rfl,hs.first⟩
theorem RetO.after {w w1 w2:World} {e:TypeId} {sz:Nat} {rs:List (List Value)} {s:Sl} (E:Pure w w1) (h:RetO w1 e sz rs s w2):RetO w e sz rs s w2 :=
 ⟨h.rows,fun b hb=>Nat.le_trans E.size (h.own b hb),E.trans h.pure⟩
section
variable {S:NP} (s:Sl) (bs:List UInt8) (k f t x a b:Int) (y:ByteArray) (m:Option Nat) (w0:World) (hs:Lst S w0 1 s (byr bs)) (hz:s.a=none→s=Sl.nil) (hn:bs.length≤10000000000)
include hs hz hn
theorem jQF (n:Nat) (hf:f=n) (hN:n<9223372036854775808) :
  Calls prog 182 #[s.v,.agg #[.int .i64 k,.int .i64 f,.int .i64 t,.int .u64 x,.string y,.int .i64 a,.int .i64 b],.map m] w0 (fun e w'=>∃r:Sl,e=.returned r.v∧RetO w0 5 1 (byr (bs++vN n)) r w'):=by
 subst hf
 refine w_G4 s k n t x y a b m w0 (fun r w'=>RetO w0 5 1 (byr (bs++vN n)) r w') ?_
 unfold m_G4
 intro H1 w1 hs1
 rw [vV (by omega)]
 refine (jAM s bs n w1 (hs.pure hs1.first) hz hn (by omega)).mono ?_
 rintro _ w2 ⟨r,rfl,hR⟩
 exact ⟨r,rfl,hR.kept,hR.after hs1.first⟩
theorem jUW (n:Nat) (ht:t=n) (hN:n<9223372036854775808) :
  Calls prog 186 #[s.v,.agg #[.int .i64 k,.int .i64 f,.int .i64 t,.int .u64 x,.string y,.int .i64 a,.int .i64 b],.map m] w0 (fun e w'=>∃r:Sl,e=.returned r.v∧RetO w0 5 1 (byr (bs++vN n)) r w'):=by
 subst ht
 refine w_J4 s k f n x y a b m w0 (fun r w'=>RetO w0 5 1 (byr (bs++vN n)) r w') ?_
 unfold m_J4
 intro H1 w1 hs1
 rw [vV (by omega)]
 refine (jAM s bs n w1 (hs.pure hs1.first) hz hn (by omega)).mono ?_
 rintro _ w2 ⟨r,rfl,hR⟩
 exact ⟨r,rfl,hR.kept,hR.after hs1.first⟩
theorem jQE (n:Nat) (hx:x=n) (hN:n<18446744073709551616) :
  Calls prog 188 #[s.v,.agg #[.int .i64 k,.int .i64 f,.int .i64 t,.int .u64 x,.string y,.int .i64 a,.int .i64 b],.map m] w0 (fun e w'=>∃r:Sl,e=.returned r.v∧RetO w0 5 1 (byr (bs++vN n)) r w'):=by
 subst hx
 refine w_L4 s k f t n y a b m w0 (fun r w'=>RetO w0 5 1 (byr (bs++vN n)) r w') ?_
 unfold m_L4
 intro H1 w1 hs1
 refine (jAM s bs n w1 (hs.pure hs1.first) hz hn (by omega)).mono ?_
 rintro _ w2 ⟨r,rfl,hR⟩
 exact ⟨r,rfl,hR.kept,hR.after hs1.first⟩
theorem jNM (hN:y.size≤10000000000) :
  Calls prog 190 #[s.v,.agg #[.int .i64 k,.int .i64 f,.int .i64 t,.int .u64 x,.string y,.int .i64 a,.int .i64 b],.map m] w0 (fun e w'=>∃r:Sl,e=.returned r.v∧RetO w0 5 1 (byr (bs++qH y)) r w'):=by
 refine w_O4 s k f t x y a b m w0 (fun r w'=>RetO w0 5 1 (byr (bs++qH y)) r w') ?_
 unfold m_O4
 intro H1 w1 hs1
 refine (jQD s bs y w1 (hs.pure hs1.first) hz hn hN).mono ?_
 rintro _ w2 ⟨r,rfl,hR⟩
 exact ⟨r,rfl,hR.kept,hR.after hs1.first⟩
theorem c_putA (mb:Nat) (M:List (Int×Int)) (n:Nat) (hM:IMap (fun i:Int=>.int .i64 i) w0 mb M) (hk:SE.look M a=some (n:Int)) (hN:n<9223372036854775808) :
  Calls prog 194 #[s.v,.agg #[.int .i64 k,.int .i64 f,.int .i64 t,.int .u64 x,.string y,.int .i64 a,.int .i64 b],.map (some mb)] w0 (fun e w'=>∃r:Sl,e=.returned r.v∧RetO w0 5 1 (byr (bs++vN n)) r w'):=by
 refine w_R4 s k f t x y a b (some mb) w0 (fun r w'=>RetO w0 5 1 (byr (bs++vN n)) r w') ?_
 unfold m_R4
 intro H1 w1 hs1
 rcases (hM.pure hs1.first).get (P:=prog) (T:=205) underlying205 underlying23 (zeroValue3 _) a false with ⟨h1,_⟩ | ⟨v,h1,hg⟩
 ·rw [hk] at h1;cases h1
 rw [hk] at h1;cases h1
 refine ⟨_,hg,?_⟩
 rw [vV (by omega)]
 refine (jAM s bs n w1 (hs.pure hs1.first) hz hn (by omega)).mono ?_
 rintro _ w2 ⟨r,rfl,hR⟩
 exact ⟨r,rfl,hR.kept,hR.after hs1.first⟩
theorem c_putB (mb:Nat) (M:List (Int×Int)) (n:Nat) (hM:IMap (fun i:Int=>.int .i64 i) w0 mb M) (hk:SE.look M b=some (n:Int)) (hN:n<9223372036854775808) :
  Calls prog 196 #[s.v,.agg #[.int .i64 k,.int .i64 f,.int .i64 t,.int .u64 x,.string y,.int .i64 a,.int .i64 b],.map (some mb)] w0 (fun e w'=>∃r:Sl,e=.returned r.v∧RetO w0 5 1 (byr (bs++vN n)) r w'):=by
 refine w_T4 s k f t x y a b (some mb) w0 (fun r w'=>RetO w0 5 1 (byr (bs++vN n)) r w') ?_
 unfold m_T4
 intro H1 w1 hs1
 rcases (hM.pure hs1.first).get (P:=prog) (T:=205) underlying205 underlying23 (zeroValue3 _) b false with ⟨h1,_⟩ | ⟨v,h1,hg⟩
 ·rw [hk] at h1;cases h1
 rw [hk] at h1;cases h1
 refine ⟨_,hg,?_⟩
 rw [vV (by omega)]
 refine (jAM s bs n w1 (hs.pure hs1.first) hz hn (by omega)).mono ?_
 rintro _ w2 ⟨r,rfl,hR⟩
 exact ⟨r,rfl,hR.kept,hR.after hs1.first⟩
end
section
variable {S:NP} (a q:Addr) (s:Sl) (bs:List UInt8) (r:Rd) (cells:List Value) (w0:World) (h:RdS S w0 a s bs r) (hat:r.at_≤bs.length) (hS:∀b,S b→b<w0.heap.size) (hq:Box w0 q cells 253) (hl:cells.length=12) (haq:a.block≠q.block) (hSq:∀b,S b→b≠q.block)
include h hat hS hq hl haq hSq
theorem jQL:Calls prog 184 #[.pointer (some a),.pointer (some q)] w0 (fun e w'=>e=.returned (.tuple #[])∧RdS S w' a s bs (qN bs r).2∧Box w' q (cells.set 7 (.int .u64 ((qN bs r).1:Int))) 253∧Ext (fun b=>b=a.block∨b=q.block) w0 w'):=by
 refine w_I4 (some a) (some q) w0 (fun w'=>RdS S w' a s bs (qN bs r).2∧Box w' q (cells.set 7 (.int .u64 ((qN bs r).1:Int))) 253∧Ext (fun b=>b=a.block∨b=q.block) w0 w') ?_;unfold m_I4;refine (jJJ a s bs r w0 h hat hS).mono ?_;rintro e w1 ⟨x,rfl,rfl,hR,hE⟩;have hq1:=hq.ext hE (fun e=>haq e.symm);refine ⟨_,rfl,q,rfl,hq1.canW (i:=7) (by omega),?_⟩;rintro w2 rfl;have hx:Ext (·=q.block) w1 (w1.setCell (q.add 7) (.int .u64 ((qN bs r).1:Int))):=qP;exact ⟨hR.ext hx (fun b hb e=>hSq b hb e) haq,hq1.set 7 _,(hE.mono (fun _ _ e=>.inl e)).trans (hx.mono (fun _ _ e=>.inr e))⟩
theorem jUZ:Calls prog 187 #[.pointer (some a),.pointer (some q)] w0 (fun e w'=>e=.returned (.tuple #[])∧RdS S w' a s bs (qN bs r).2∧Box w' q (cells.set 8 (.int .u64 ((qN bs r).1:Int))) 253∧Ext (fun b=>b=a.block∨b=q.block) w0 w'):=by
 refine w_K4 (some a) (some q) w0 (fun w'=>RdS S w' a s bs (qN bs r).2∧Box w' q (cells.set 8 (.int .u64 ((qN bs r).1:Int))) 253∧Ext (fun b=>b=a.block∨b=q.block) w0 w') ?_;unfold m_K4;refine (jJJ a s bs r w0 h hat hS).mono ?_;rintro e w1 ⟨x,rfl,rfl,hR,hE⟩;have hq1:=hq.ext hE (fun e=>haq e.symm);refine ⟨_,rfl,q,rfl,hq1.canW (i:=8) (by omega),?_⟩;rintro w2 rfl;have hx:Ext (·=q.block) w1 (w1.setCell (q.add 8) (.int .u64 ((qN bs r).1:Int))):=qP;exact ⟨hR.ext hx (fun b hb e=>hSq b hb e) haq,hq1.set 8 _,(hE.mono (fun _ _ e=>.inl e)).trans (hx.mono (fun _ _ e=>.inr e))⟩
theorem jSP:Calls prog 189 #[.pointer (some a),.pointer (some q)] w0 (fun e w'=>e=.returned (.tuple #[])∧RdS S w' a s bs (qN bs r).2∧Box w' q (cells.set 3 (.int .u64 ((qN bs r).1:Int))) 253∧Ext (fun b=>b=a.block∨b=q.block) w0 w'):=by
 refine w_M4 (some a) (some q) w0 (fun w'=>RdS S w' a s bs (qN bs r).2∧Box w' q (cells.set 3 (.int .u64 ((qN bs r).1:Int))) 253∧Ext (fun b=>b=a.block∨b=q.block) w0 w') ?_;unfold m_M4;refine (jJJ a s bs r w0 h hat hS).mono ?_;rintro e w1 ⟨x,rfl,rfl,hR,hE⟩;have hq1:=hq.ext hE (fun e=>haq e.symm);refine ⟨_,rfl,q,rfl,hq1.canW (i:=3) (by omega),?_⟩;rintro w2 rfl;have hx:Ext (·=q.block) w1 (w1.setCell (q.add 3) (.int .u64 ((qN bs r).1:Int))):=qP;exact ⟨hR.ext hx (fun b hb e=>hSq b hb e) haq,hq1.set 3 _,(hE.mono (fun _ _ e=>.inl e)).trans (hx.mono (fun _ _ e=>.inr e))⟩
theorem jQK:Calls prog 192 #[.pointer (some a),.pointer (some q)] w0 (fun e w'=>e=.returned (.tuple #[])∧RdS S w' a s bs (qQ bs 64 r).2∧Box w' q (cells.set 4 (.string ⟨(qQ bs 64 r).1.toArray⟩)) 253∧Ext (fun b=>b=a.block∨b=q.block) w0 w'):=by
 refine w_Q4 (some a) (some q) w0 (fun w'=>RdS S w' a s bs (qQ bs 64 r).2∧Box w' q (cells.set 4 (.string ⟨(qQ bs 64 r).1.toArray⟩)) 253∧Ext (fun b=>b=a.block∨b=q.block) w0 w') ?_;unfold m_Q4;refine (c_Text a s bs 64 r w0 h hat hS (by omega)).mono ?_;rintro e w1 ⟨x,rfl,rfl,hR,hE⟩;have hq1:=hq.ext hE (fun e=>haq e.symm);refine ⟨_,rfl,q,rfl,hq1.canW (i:=4) (by omega),?_⟩;rintro w2 rfl;have hx:Ext (·=q.block) w1 (w1.setCell (q.add 4) (.string ⟨(qQ bs 64 r).1.toArray⟩)):=qP;exact ⟨hR.ext hx (fun b hb e=>hSq b hb e) haq,hq1.set 4 _,(hE.mono (fun _ _ e=>.inl e)).trans (hx.mono (fun _ _ e=>.inr e))⟩
theorem c_getA:Calls prog 195 #[.pointer (some a),.pointer (some q)] w0 (fun e w'=>e=.returned (.tuple #[])∧RdS S w' a s bs (qN bs r).2∧Box w' q ((cells.set 9 (.int .u64 ((qN bs r).1:Int))).set 11 (.int .i64 1)) 253∧Ext (fun b=>b=a.block∨b=q.block) w0 w'):=by
 refine w_S4 (some a) (some q) w0 (fun w'=>RdS S w' a s bs (qN bs r).2∧Box w' q ((cells.set 9 (.int .u64 ((qN bs r).1:Int))).set 11 (.int .i64 1)) 253∧Ext (fun b=>b=a.block∨b=q.block) w0 w') ?_;unfold m_S4;refine (jJJ a s bs r w0 h hat hS).mono ?_;rintro e w1 ⟨x,rfl,rfl,hR,hE⟩;have hq1:=hq.ext hE (fun e=>haq e.symm);refine ⟨_,rfl,q,rfl,hq1.canW (i:=9) (by omega),?_⟩;rintro w2 rfl;have hx:Ext (·=q.block) w1 ((w1.setCell (q.add 9) (.int .u64 ((qN bs r).1:Int))).setCell (q.add 11) (.int .i64 1)):=qP.trans qP;have hq2:=hq1.set 9 (.int .u64 ((qN bs r).1:Int));refine ⟨q,rfl,hq2.canW (i:=11) (by rw [List.length_set];omega),?_⟩;rintro w3 rfl;exact ⟨hR.ext hx (fun b hb e=>hSq b hb e) haq,hq2.set 11 _,(hE.mono (fun _ _ e=>.inl e)).trans (hx.mono (fun _ _ e=>.inr e))⟩
theorem c_getB:Calls prog 197 #[.pointer (some a),.pointer (some q)] w0 (fun e w'=>e=.returned (.tuple #[])∧RdS S w' a s bs (qN bs r).2∧Box w' q ((cells.set 10 (.int .u64 ((qN bs r).1:Int))).set 11 (.int .i64 2)) 253∧Ext (fun b=>b=a.block∨b=q.block) w0 w'):=by
 refine w_U4 (some a) (some q) w0 (fun w'=>RdS S w' a s bs (qN bs r).2∧Box w' q ((cells.set 10 (.int .u64 ((qN bs r).1:Int))).set 11 (.int .i64 2)) 253∧Ext (fun b=>b=a.block∨b=q.block) w0 w') ?_;unfold m_U4;refine (jJJ a s bs r w0 h hat hS).mono ?_;rintro e w1 ⟨x,rfl,rfl,hR,hE⟩;have hq1:=hq.ext hE (fun e=>haq e.symm);refine ⟨_,rfl,q,rfl,hq1.canW (i:=10) (by omega),?_⟩;rintro w2 rfl;have hx:Ext (·=q.block) w1 ((w1.setCell (q.add 10) (.int .u64 ((qN bs r).1:Int))).setCell (q.add 11) (.int .i64 2)):=qP.trans qP;have hq2:=hq1.set 10 (.int .u64 ((qN bs r).1:Int));refine ⟨q,rfl,hq2.canW (i:=11) (by rw [List.length_set];omega),?_⟩;rintro w3 rfl;exact ⟨hR.ext hx (fun b hb e=>hSq b hb e) haq,hq2.set 11 _,(hE.mono (fun _ _ e=>.inl e)).trans (hx.mono (fun _ _ e=>.inr e))⟩
end
end Go.Proofs
end
section
namespace Go.Sp
def tU (k:Int):Bool:=k == 7 || k == 8 || k == 9
def jNG (k:Int):Bool:=k == 1 || k == 2 || k == 3
def jCQ (n:Int):Node:=⟨6,n,0,0,⟨#[]⟩,0,0⟩
def jGF (n:Node):Int:=if n.kind=9 then n.to else n.frm
def jCH (L:Pool) (r u t:Int):Prop :=
 (r=1∧(nodeOf L u).kind=4∧(nodeOf L u).a=t)∨(r=2∧(nodeOf L u).kind=4∧(nodeOf L u).b=t)∨(r=3∧tU (nodeOf L u).kind=true∧(nodeOf L u).a=t)
inductive Seen (L:Pool) (G:List Int):Int→Prop
 | given {t:Int}:t∈G→Seen L G t
 | aris {r u t:Int}:Seen L G u→jCH L r u t→Seen L G t
inductive Drv (L:Pool) (K:Int→Prop):Int→Prop
 | seen {t:Int}:K t→Drv L K t
 | free {t:Int}:jNG (nodeOf L t).kind=true→Drv L K t
 | pair {t:Int}:(nodeOf L t).kind=4→Drv L K (nodeOf L t).a→Drv L K (nodeOf L t).b→Drv L K t
 | hash {t:Int}:(nodeOf L t).kind=5→Drv L K (nodeOf L t).a→Drv L K t
 | sign {t:Int} {i:Nat}:tU (nodeOf L t).kind=true→Drv L K (nodeOf L t).a→find L (jCQ (jGF (nodeOf L t)))=some i→K ((i:Int)+1)→Drv L K t
structure Way where
 t:Int
 rule:Int
 frm:Int
deriving DecidableEq
def jAN (S:List Way):List Int:=S.map Way.t
def jNR (L:Pool) (G:List Int) (pre:List Way) (v:Way):Prop:=(v.rule=0∧v.frm=0∧v.t∈G)∨(v.rule≠0∧jCH L v.rule v.frm v.t∧v.frm∈jAN pre)
structure WaysOk (L:Pool) (G:List Int) (S:List Way):Prop where
 nodup:(jAN S).Nodup
 inp:∀t∈jAN S,inP L t=true
 way:∀i (h:i<S.length),jNR L G (S.take i) S[i]
def jVH (L:Pool) (S:List Way) (u:Int):Prop:=∀r t,jCH L r u t→t∈jAN S
theorem jOB (S:List Way):(jAN S).length=S.length:=by simp [jAN]
theorem jNR.mono {L:Pool} {G G':List Int} {pre:List Way} {v:Way} (h:jNR L G pre v) (hG:∀t∈G,t∈G'):jNR L G' pre v:=by
 rcases h with ⟨a,b,c⟩ | h
 ·exact .inl ⟨a,b,hG _ c⟩
 ·exact .inr h
theorem WaysOk.mono {L:Pool} {G G':List Int} {S:List Way} (h:WaysOk L G S) (hG:∀t∈G,t∈G'):WaysOk L G' S:=⟨h.nodup,h.inp,fun i hi=>(h.way i hi).mono hG⟩
theorem WaysOk.snoc {L:Pool} {G:List Int} {S:List Way} (h:WaysOk L G S) {v:Way} (hn:v.t ∉ jAN S) (hi:inP L v.t=true) (hv:jNR L G S v):WaysOk L G (S++[v]):=by
 refine ⟨?_,?_,fun i hlt=>?_⟩
 ·unfold jAN at hn ⊢;rw [List.map_append,List.nodup_append];exact ⟨h.nodup,by simp,fun x hx y hy e=>by simp at hy;subst hy;exact hn (e▸hx)⟩
 ·intro t ht;unfold jAN at ht;rw [List.map_append,List.mem_append] at ht;rcases ht with ht | ht
  ·exact h.inp t ht
  ·simp at ht;rw [ht];exact hi
 ·rw [List.length_append] at hlt;simp only [List.length_cons,List.length_nil] at hlt;by_cases hl:i<S.length
  ·rw [List.getElem_append_left hl,List.take_append_of_le_length (by omega)];exact h.way i hl
  ·have:i=S.length:=by omega
   subst this;rw [List.getElem_append_right (Nat.le_refl _),List.take_left];simpa using hv
theorem jVH.snoc {L:Pool} {S:List Way} {u:Int} {v:Way} (h:jVH L S u):jVH L (S++[v]) u:=fun r t ha=>by
 unfold jAN;rw [List.map_append];exact List.mem_append_left _ (h r t ha)
theorem Seen.mono {L:Pool} {G G':List Int} (hG:∀t∈G,t∈G') {t:Int} (h:Seen L G t):Seen L G' t:=by
 induction h with
 | given hg=>exact .given (hG _ hg)
 | aris _ ha ih=>exact .aris ih ha
theorem Drv.mono {L:Pool} {K K':Int→Prop} (hK:∀t,K t→K' t) {t:Int} (h:Drv L K t):Drv L K' t:=by
 induction h with
 | seen h=>exact .seen (hK _ h)
 | free h=>exact .free h
 | pair h _ _ iha ihb=>exact .pair h iha ihb
 | hash h _ ih=>exact .hash h ih
 | sign h _ hf hk ih=>exact .sign h ih hf (hK _ hk)
structure Step where
 rule:Int
 a:Int
 b:Int
 t:Int
deriving DecidableEq
def jNQ (i:Nat) (v:Int):Bool:=decide (0≤v) && decide (v<i)
def tAt (pre:List Step) (v:Int):Int:=(pre[v.toNat]?.map Step.t).getD 0
def jVG (L:Pool) (r u t:Int):Bool :=
 if r=1 then (nodeOf L u).kind == 4 && (nodeOf L u).a == t else if r=2 then (nodeOf L u).kind == 4 && (nodeOf L u).b == t else tU (nodeOf L u).kind && (nodeOf L u).a == t
def fol (L:Pool) (G:List Int) (pre:List Step) (s:Step):Bool :=
 if inP L s.t=false then false
 else if s.rule=0 then s.a == 0 && s.b == 0 && decide (s.t∈G)
 else if s.rule=1∨s.rule=2∨s.rule=3 then jNQ pre.length s.a && s.b == 0 && jVG L s.rule (tAt pre s.a) s.t
 else if s.rule=4 then s.a == 0 && s.b == 0 && jNG (nodeOf L s.t).kind
 else if s.rule=5 then
  if (nodeOf L s.t).kind=4 then jNQ pre.length s.a && jNQ pre.length s.b && tAt pre s.a == (nodeOf L s.t).a && tAt pre s.b == (nodeOf L s.t).b
  else if (nodeOf L s.t).kind=5 then jNQ pre.length s.a && s.b == 0 && tAt pre s.a == (nodeOf L s.t).a
  else if tU (nodeOf L s.t).kind=true then jNQ pre.length s.a && jNQ pre.length s.b && tAt pre s.a == (nodeOf L s.t).a && (nodeOf L (tAt pre s.b)).kind == 6 && (nodeOf L (tAt pre s.b)).frm == jGF (nodeOf L s.t)
  else false
 else false
end Go.Sp
namespace Go.Sp
theorem jID {α:Type} [DecidableEq α]:∀{l m:List α},l.Nodup→(∀x∈l,x∈m)→l.length≤m.length
 | [],m,_,_=>by simp
 | x :: l,m,hn,hs=>by
  have hx:=hs x (by simp);rw [List.nodup_cons] at hn;have:=jID (m:=m.erase x) hn.2 (fun y hy=>(List.mem_erase_of_ne (fun h=>hn.1 (by rw [← h];exact hy))).2 (hs y (List.mem_cons_of_mem _ hy)));rw [List.length_erase_of_mem hx] at this;have:=List.length_pos_of_mem hx;simp only [List.length_cons];omega
theorem jBS {L:Pool} {l:List Int} (hn:l.Nodup) (hi:∀t∈l,inP L t=true):l.length≤L.length:=by
 have:=jID (m:=(List.range L.length).map fun i:Nat=>(i:Int)+1) hn (fun t ht=>by
  obtain ⟨i,h1,h2⟩:=jAO (hi t ht);exact List.mem_map.2 ⟨i,List.mem_range.2 h1,h2.symm⟩)
 simpa using this
theorem WaysOk.few {L:Pool} {G:List Int} {S:List Way} (h:WaysOk L G S):S.length≤L.length:=by
 have:=jBS h.nodup h.inp;rwa [jOB] at this
theorem kids4 {L:Pool} (h:Wf L) {t:Int} (ht:inP L t=true) (hk:(nodeOf L t).kind=4):(inP L (nodeOf L t).a=true∧(nodeOf L t).a<t)∧(inP L (nodeOf L t).b=true∧(nodeOf L t).b<t):=by
 have:=(h.node ht).2.2.2.2.1;simp only [zH,hk,shapeOf] at this;exact ⟨this _ (by simp),this _ (by simp)⟩
theorem kids7 {L:Pool} (h:Wf L) {t:Int} (ht:inP L t=true) (hk:tU (nodeOf L t).kind=true):inP L (nodeOf L t).a=true∧(nodeOf L t).a<t:=by
 have:=(h.node ht).2.2.2.2.1;simp only [tU,Bool.or_eq_true,beq_iff_eq] at hk;rcases hk with (hk | hk) | hk <;> simp only [zH,hk,shapeOf] at this <;> exact this _ (by simp)
theorem jCH.inp {L:Pool} (h:Wf L) {r u t:Int} (hu:inP L u=true) (ha:jCH L r u t):inP L t=true∧t<u:=by
 rcases ha with ⟨_,hk,rfl⟩ | ⟨_,hk,rfl⟩ | ⟨_,hk,rfl⟩
 ·exact (kids4 h hu hk).1
 ·exact (kids4 h hu hk).2
 ·exact kids7 h hu hk
def jTN (S:List Way) (v:Way):List Way:=if v.t∈jAN S then S else S++[v]
theorem WaysOk.add {L:Pool} {G:List Int} {S:List Way} (h:WaysOk L G S) {v:Way} (hi:inP L v.t=true) (hv:jNR L G S v):WaysOk L G (jTN S v):=by
 unfold jTN;split
 ·exact h
 ·rename_i hn;exact h.snoc hn hi hv
end Go.Sp
end
section
open Go.SE
namespace Go.Sp
def jBY (L:Pool) (n:Int):Int×Bool:=match find L (jCQ n) with
 | some i=>((i:Int)+1,true)
 | none=>(0,false)
theorem jPS {L:Pool} {n:Node} {i:Nat} (h:find L n=some i):i<L.length∧nodeOf L ((i:Int)+1)=n:=by
 unfold find at h;rw [List.findIdx?_eq_some_iff_getElem] at h;obtain ⟨hi,h1,_⟩:=h;refine ⟨hi,?_⟩;rw [qJ hi];simpa using h1
theorem jRZ {L:Pool} {n:Int} (h:(jBY L n).2=true):inP L (jBY L n).1=true∧nodeOf L (jBY L n).1=jCQ n∧∃i,find L (jCQ n)=some i∧(jBY L n).1=(i:Int)+1:=by
 unfold jBY at h ⊢;cases hf:find L (jCQ n) with
 | none=>rw [hf] at h;cases h
 | some i =>
  obtain ⟨hi,hn⟩:=jPS hf
  exact ⟨vA.2 ⟨by simp only;omega,by simp only;omega⟩,hn,i,rfl,rfl⟩
theorem jNB {L:Pool} {n:Int} {i:Nat} (h:find L (jCQ n)=some i):jBY L n=((i:Int)+1,true):=by unfold jBY;rw [h]
theorem Drv.inv {L:Pool} {K:Int→Prop} {t:Int} (h:Drv L K t):K t∨jNG (nodeOf L t).kind=true∨((nodeOf L t).kind=4∧Drv L K (nodeOf L t).a∧Drv L K (nodeOf L t).b)∨((nodeOf L t).kind=5∧Drv L K (nodeOf L t).a) ∨
  (tU (nodeOf L t).kind=true∧Drv L K (nodeOf L t).a∧(jBY L (jGF (nodeOf L t))).2=true∧K (jBY L (jGF (nodeOf L t))).1):=by
 cases h with
 | seen h=>exact .inl h
 | free h=>exact .inr (.inl h)
 | pair h a b=>exact .inr (.inr (.inl ⟨h,a,b⟩))
 | hash h a=>exact .inr (.inr (.inr (.inl ⟨h,a⟩)))
 | sign h a hf hk=>rw [jNB hf];exact .inr (.inr (.inr (.inr ⟨h,a,rfl,hk⟩)))
theorem Drv.signed {L:Pool} {K:Int→Prop} {t:Int} (h:tU (nodeOf L t).kind=true) (ha:Drv L K (nodeOf L t).a) (hk:(jBY L (jGF (nodeOf L t))).2=true) (hK:K (jBY L (jGF (nodeOf L t))).1):Drv L K t:=by
 obtain ⟨_,_,i,hf,e⟩:=jRZ hk;rw [e] at hK;exact .sign h ha hf hK
theorem uM {L:Pool} (h:Wf L) {t:Int} (ht:inP L t=true):jNG (nodeOf L t).kind=true∨(nodeOf L t).kind=4∨(nodeOf L t).kind=5∨(nodeOf L t).kind=6∨tU (nodeOf L t).kind=true:=by
 have h1:=(h.node ht).1;unfold zV at h1;simp only at h1;split at h1
 ·cases h1
 ·rename_i hh;simp only [Bool.or_eq_true,Bool.not_eq_true',not_or] at hh;have hk:isKind (nodeOf L t).kind=true:=by simpa using hh.1.1.1.1
  simp only [isKind,Bool.and_eq_true,decide_eq_true_eq] at hk;simp only [jNG,tU,Bool.or_eq_true,beq_iff_eq];omega
inductive Sub (L:Pool):Int→Int→Prop
 | refl (t:Int):Sub L t t
 | kid {t u k:Int}:Sub L t u→k∈zH (nodeOf L u)→Sub L t k
theorem Sub.trans {L:Pool} {a b c:Int} (h:Sub L a b) (k:Sub L b c):Sub L a c:=by
 induction k with
 | refl=>exact h
 | kid _ hk ih=>exact .kid ih hk
theorem jTA {n:Node} (h:n.kind=4∨n.kind=5∨tU n.kind=true):n.a∈zH n:=by
 simp only [tU,Bool.or_eq_true,beq_iff_eq] at h;rcases h with h | h | (h | h) | h <;> simp [zH,h,shapeOf]
theorem kids_b {n:Node} (h:n.kind=4):n.b∈zH n:=by simp [zH,h,shapeOf]
theorem jCH.sub {L:Pool} {r u t:Int} (h:jCH L r u t):Sub L u t:=by
 rcases h with ⟨_,hk,rfl⟩ | ⟨_,hk,rfl⟩ | ⟨_,hk,rfl⟩
 ·exact .kid (.refl u) (jTA (.inl hk))
 ·exact .kid (.refl u) (kids_b hk)
 ·exact .kid (.refl u) (jTA (.inr (.inr hk)))
theorem Seen.sub {L:Pool} {G:List Int} {t:Int} (h:Seen L G t):∃g∈G,Sub L g t:=by
 induction h with
 | given hg=>exact ⟨_,hg,.refl _⟩
 | aris _ ha ih=>obtain ⟨g,hg,hs⟩:=ih;exact ⟨g,hg,hs.trans ha.sub⟩
theorem jCH.rule {L:Pool} {r u t:Int} (h:jCH L r u t):r=1∨r=2∨r=3:=by
 rcases h with ⟨h,_⟩ | ⟨h,_⟩ | ⟨h,_⟩
 ·exact .inl h
 ·exact .inr (.inl h)
 ·exact .inr (.inr h)
structure PrfOk (L:Pool) (G:List Int) (K:Int→Prop) (l:List Step) (B:List Int):Prop where
 fol:∀i (hi:i<l.length),fol L G (l.take i) l[i]=true
 nd:(l.map Step.t).Nodup
 drv:∀s∈l,Drv L K s.t
 bar:∀t∈B,¬ Drv L K t
theorem PrfOk.nil (L:Pool) (G:List Int) (K:Int→Prop):PrfOk L G K [] []:=⟨fun i hi=>by simp at hi,by simp,by simp,by simp⟩
theorem PrfOk.snoc {L:Pool} {G:List Int} {K:Int→Prop} {l:List Step} {B:List Int} (h:PrfOk L G K l B) {s:Step} (hf:Sp.fol L G l s=true) (hn:s.t ∉ l.map Step.t) (hd:Drv L K s.t):PrfOk L G K (l++[s]) B:=by
 refine ⟨fun i hi=>?_,?_,fun x hx=>?_,h.bar⟩
 ·rw [List.length_append] at hi;simp only [List.length_cons,List.length_nil] at hi;by_cases hl:i<l.length
  ·rw [List.getElem_append_left hl,List.take_append_of_le_length (by omega)];exact h.fol i hl
  ·have:i=l.length:=by omega
   subst this;rw [List.getElem_append_right (Nat.le_refl _),List.take_left];simpa using hf
 ·rw [List.map_append,List.nodup_append];exact ⟨h.nd,by simp,fun x hx y hy e=>by simp at hy;subst hy;exact hn (e▸hx)⟩
 ·rcases List.mem_append.1 hx with hx | hx
  ·exact h.drv x hx
  ·simp at hx;subst hx;exact hd
theorem fol_in {L:Pool} {G:List Int} {pre:List Step} {s:Step} (h:fol L G pre s=true):inP L s.t=true:=by
 unfold fol at h;split at h
 ·cases h
 ·rename_i hh;simpa using hh
theorem PrfOk.few {L:Pool} {G:List Int} {K:Int→Prop} {l:List Step} {B:List Int} (h:PrfOk L G K l B):l.length≤L.length:=by
 have:=jBS h.nd (fun t ht=>by
  obtain ⟨s,hs,rfl⟩:=List.mem_map.1 ht;obtain ⟨i,hi,rfl⟩:=List.getElem_of_mem hs;exact fol_in (h.fol i hi))
 simpa using this
def upd (V:Int→Bool) (t:Int) (b:Bool):Int→Bool:=fun x=>if x=t then b else V x
def qV (L:Pool):Nat→Int→(Int→Bool)×List Int→(Int→Bool)×List Int
 | 0,_,st=>st
 | n + 1, t, st => if inP L t = true ∧ st.1 t = false then
   let s2:=qV L n (nodeOf L t).b (qV L n (nodeOf L t).a (upd st.1 t true,st.2))
   (s2.1,s2.2++[t])
  else st
def subs (L:Pool) (t:Int):List Int:=(qV L (t.toNat+1) t (fun _=>false,[])).2
theorem Sub.head {L:Pool} {t y:Int} (h:Sub L t y):y=t∨∃k∈zH (nodeOf L t),Sub L k y:=by
 induction h with
 | refl=>exact .inl rfl
 | kid _ hk ih =>
  rcases ih with rfl | ⟨k,h1,h2⟩
  ·exact .inr ⟨_,hk,.refl _⟩
  ·exact .inr ⟨k,h1,h2.kid hk⟩
theorem Sub.le {L:Pool} (hW:Wf L) {t y:Int} (ht:inP L t=true) (h:Sub L t y):inP L y=true∧y≤t:=by
 induction h with
 | refl=>exact ⟨ht,Int.le_refl _⟩
 | kid _ hk ih =>
  have:=(hW.node ih.1).2.2.2.2.1 _ hk
  exact ⟨this.1,by omega⟩
theorem jTB {n:Node} {k:Int} (h:k∈zH n):k=n.a∨k=n.b:=by
 unfold zH at h;have:=List.mem_of_mem_take h;simpa using this
theorem jIL {L:Pool} (hW:Wf L) {t k:Int} (ht:inP L t=true) (h:k=(nodeOf L t).a∨k=(nodeOf L t).b) (hk:inP L k=true):k∈zH (nodeOf L t):=by
 have h1:=(hW.node ht).2.1;have h2:=(hW.node ht).2.2.1;have hk0:k≠0:=by have:=(vA.1 hk).1;omega
 unfold zH;rcases yG (nodeOf L t).kind with e | e | e
 ·have a0:=h1 (by omega);have b0:=h2 (by omega);rcases h with h | h
  ·exact absurd (h.trans a0) hk0
  ·exact absurd (h.trans b0) hk0
 ·have b0:=h2 (by omega);rcases h with h | h
  ·rw [e,h];simp
  ·exact absurd (h.trans b0) hk0
 ·rw [e];rcases h with h | h <;> simp [h]
structure OvOk (L:Pool) (st:(Int→Bool)×List Int):Prop where
 marked:∀x∈st.2,st.1 x=true
 closed:∀x∈st.2,∀y,Sub L x y→y∈st.2
 nd:st.2.Nodup
 inp:∀x∈st.2,inP L x=true
structure OvRes (L:Pool) (t:Int) (st st':(Int→Bool)×List Int):Prop extends OvOk L st' where
 app:∃M,st'.2=st.2++M∧∀x∈M,Sub L t x∧inP L t=true
 keep:∀x,st.1 x=true→st'.1 x=true
 back:∀x,st'.1 x=true→st.1 x=true∨x∈st'.2
 all:inP L t=true→∀y,Sub L t y→y∈st'.2
theorem xP {L:Pool} (hW:Wf L):∀(n:Nat) (t:Int) (st:(Int→Bool)×List Int),t.toNat<n→OvOk L st→(∀x,st.1 x=true→x≤t→x∈st.2)→OvRes L t st (qV L n t st):=by
 intro n;induction n with
 | zero=>intro t st h;omega
 | succ n ih =>
  intro t st hn hst hm
  rw [qV]
  by_cases hc:inP L t=true∧st.1 t=false
  ·rw [if_pos hc]
   obtain ⟨hin,hv⟩:=hc
   have ht1:=(vA.1 hin).1
   have hkid:=(hW.node hin).2.2.2.2.1
   have low:∀k,k=(nodeOf L t).a∨k=(nodeOf L t).b→k<t:=by
    intro k hk;cases hp:inP L k with
    | true=>exact (hkid k (jIL hW hin hk hp)).2
    | false =>
     have h1:=(hW.node hin).2.1
     have h2:=(hW.node hin).2.2.1
     rcases yG (nodeOf L t).kind with e | e | e
     ·have:=h1 (by omega);have:=h2 (by omega);rcases hk with hk | hk <;> omega
     ·have b0:=h2 (by omega)
      rcases hk with hk | hk
      ·have:=(hkid k (by unfold zH;rw [e,hk];simp)).2;exact this
      ·omega
     ·exact (hkid k (by unfold zH;rw [e];rcases hk with hk | hk <;> simp [hk])).2
   have o1:OvOk L (upd st.1 t true,st.2):=⟨fun x hx=>by simp only [upd];split <;> simp [hst.marked x hx],hst.closed,hst.nd,hst.inp⟩
   have r1:=ih (nodeOf L t).a (upd st.1 t true,st.2) (by have:=low _ (.inl rfl);omega) o1 (fun x hx hle=>by
    have:=low _ (.inl rfl);simp only [upd] at hx;rw [if_neg (by omega)] at hx;exact hm x hx (by omega))
   generalize qV L n (nodeOf L t).a (upd st.1 t true,st.2)=s1 at *
   have r2:=ih (nodeOf L t).b s1 (by have:=low _ (.inr rfl);omega) r1.toOvOk (fun x hx hle=>by
    have:=low _ (.inr rfl);rcases r1.back x hx with h | h
    ·simp only [upd] at h;rw [if_neg (by omega)] at h;have:=hm x h (by omega);obtain ⟨M,e,_⟩:=r1.app;simp only at e;rw [e];exact List.mem_append_left _ this
    ·exact h)
   generalize qV L n (nodeOf L t).b s1=s2 at *
   obtain ⟨M1,e1,m1⟩:=r1.app
   obtain ⟨M2,e2,m2⟩:=r2.app
   simp only at e1
   have hvt:s2.1 t=true:=r2.keep t (r1.keep t (by simp [upd]))
   have hto:t ∉ s2.2:=by
    rw [e2,e1];intro h;rcases List.mem_append.1 h with h | h
    ·rcases List.mem_append.1 h with h | h
     ·have:=hst.marked t h;rw [hv] at this;cases this
     ·obtain ⟨h1,h2⟩:=m1 t h;have:=(h1.le hW h2).2;have:=low _ (.inl rfl);omega
    ·obtain ⟨h1,h2⟩:=m2 t h;have:=(h1.le hW h2).2;have:=low _ (.inr rfl);omega
   have hall:∀y,Sub L t y→y∈s2.2++[t]:=by
    intro y hy;rcases hy.head with rfl | ⟨k,hk,hs⟩
    ·simp
    ·refine List.mem_append_left _ ?_;have hki:=(hkid k hk).1;rcases jTB hk with rfl | rfl
     ·rw [e2];exact List.mem_append_left _ (r1.all hki y hs)
     ·exact r2.all hki y hs
   refine ⟨⟨fun x hx=>?_,fun x hx y hy=>?_,?_,fun x hx=>?_⟩,⟨M1++M2++[t],by simp [e2,e1],fun x hx=>?_⟩,fun x hx=>?_,fun x hx=>?_,fun _=>hall⟩
   ·simp only [List.mem_append,List.mem_singleton] at hx
    rcases hx with hx | rfl
    ·exact r2.marked x hx
    ·exact hvt
   ·simp only [List.mem_append,List.mem_singleton] at hx
    rcases hx with hx | rfl
    ·exact List.mem_append_left _ (r2.closed x hx y hy)
    ·exact hall y hy
   ·rw [List.nodup_append]
    exact ⟨r2.nd,by simp,fun x hx y hy e=>by simp at hy;subst hy;exact hto (e▸hx)⟩
   ·simp only [List.mem_append,List.mem_singleton] at hx
    rcases hx with hx | rfl
    ·exact r2.inp x hx
    ·exact hin
   ·refine ⟨?_,hin⟩
    simp only [List.mem_append,List.mem_singleton] at hx
    rcases hx with (hx | hx) | rfl
    ·obtain ⟨h1,h2⟩:=m1 x hx
     exact (Sub.kid (.refl t) (jIL hW hin (.inl rfl) h2)).trans h1
    ·obtain ⟨h1,h2⟩:=m2 x hx
     exact (Sub.kid (.refl t) (jIL hW hin (.inr rfl) h2)).trans h1
    ·exact .refl _
   ·exact r2.keep x (r1.keep x (by simp only [upd];split <;> simp [hx]))
   ·rcases r2.back x hx with h | h
    ·rcases r1.back x h with h' | h'
     ·simp only [upd] at h'
      split at h'
      ·rename_i e;subst e;right;simp
      ·exact .inl h'
     ·right;show x∈s2.2++[t];rw [e2];exact List.mem_append_left _ (List.mem_append_left _ h')
    ·exact .inr (List.mem_append_left _ h)
  ·rw [if_neg hc]
   refine ⟨hst,⟨[],by simp,by simp⟩,fun x h=>h,fun x h=>.inl h,fun hin y hy=>?_⟩
   have hv:st.1 t=true:=by
    cases h:st.1 t with
    | true=>rfl
    | false=>exact absurd ⟨hin,h⟩ hc
   exact hst.closed t (hm t hv (Int.le_refl _)) y hy
theorem jDS {L:Pool} (hW:Wf L) {t x:Int}:x∈subs L t↔inP L t=true∧Sub L t x:=by
 have r:=xP hW (t.toNat+1) t (fun _=>false,[]) (by omega) ⟨by simp,by simp,by simp,by simp⟩ (by simp);constructor
 ·intro h;obtain ⟨M,e,hm⟩:=r.app;unfold subs at h;rw [e] at h;simp only [List.nil_append] at h;exact ⟨(hm x h).2,(hm x h).1⟩
 ·intro h;exact r.all h.1 x h.2
theorem jAI {L:Pool} (hW:Wf L) (t:Int):(subs L t).length≤L.length:=by
 have r:=xP hW (t.toNat+1) t (fun _=>false,[]) (by omega) ⟨by simp,by simp,by simp,by simp⟩ (by simp);exact jBS r.nd r.inp
end Go.Sp
end
section
namespace Go.Sp
def Ord (L:Pool) (l:List Int):Prop:=∀pre z post,l=pre++z :: post→∀k∈zH (nodeOf L z),k∈pre
theorem Ord.snoc {L:Pool} {l:List Int} {t:Int} (h:Ord L l) (ht:∀k∈zH (nodeOf L t),k∈l):Ord L (l++[t]):=by
 intro pre z post e k hk;rcases List.eq_nil_or_concat post with rfl | ⟨post',y,rfl⟩
 ·have:=List.append_inj' e rfl;obtain ⟨rfl,e2⟩:=this;simp only [List.cons.injEq,and_true] at e2;subst e2;exact ht k hk
 ·have e':l++[t]=(pre++z :: post')++[y]:=by rw [e];simp
  have:=List.append_inj' e' rfl;exact h pre z post' this.1 k hk
theorem jRN {L:Pool} (hW:Wf L):∀(n:Nat) (t:Int) (st:(Int→Bool)×List Int),t.toNat<n→OvOk L st→(∀x,st.1 x=true→x≤t→x∈st.2)→Ord L st.2→Ord L (qV L n t st).2:=by
 intro n;induction n with
 | zero=>intro t st h;omega
 | succ n ih =>
  intro t st hn hst hm ho
  rw [qV]
  by_cases hc:inP L t=true∧st.1 t=false
  ·rw [if_pos hc]
   obtain ⟨hin,hv⟩:=hc
   have ht1:=(vA.1 hin).1
   have hkid:=(hW.node hin).2.2.2.2.1
   have low:∀k,k=(nodeOf L t).a∨k=(nodeOf L t).b→k<t:=by
    intro k hk;cases hp:inP L k with
    | true=>exact (hkid k (jIL hW hin hk hp)).2
    | false =>
     have h1:=(hW.node hin).2.1
     have h2:=(hW.node hin).2.2.1
     rcases yG (nodeOf L t).kind with e | e | e
     ·have:=h1 (by omega);have:=h2 (by omega);rcases hk with hk | hk <;> omega
     ·have b0:=h2 (by omega)
      rcases hk with hk | hk
      ·have:=(hkid k (by unfold zH;rw [e,hk];simp)).2;exact this
      ·omega
     ·exact (hkid k (by unfold zH;rw [e];rcases hk with hk | hk <;> simp [hk])).2
   have o1:OvOk L (upd st.1 t true,st.2):=⟨fun x hx=>by simp only [upd];split <;> simp [hst.marked x hx],hst.closed,hst.nd,hst.inp⟩
   have m1:∀x,(upd st.1 t true,st.2).1 x=true→x≤(nodeOf L t).a→x∈(upd st.1 t true,st.2).2:=fun x hx hle=>by
    have:=low _ (.inl rfl);simp only [upd] at hx;rw [if_neg (by omega)] at hx;exact hm x hx (by omega)
   have n1:(nodeOf L t).a.toNat<n:=by have:=low _ (.inl rfl);omega
   have n2:(nodeOf L t).b.toNat<n:=by have:=low _ (.inr rfl);omega
   have r1:=xP hW n (nodeOf L t).a (upd st.1 t true,st.2) n1 o1 m1
   have d1:=ih (nodeOf L t).a (upd st.1 t true,st.2) n1 o1 m1 ho
   generalize qV L n (nodeOf L t).a (upd st.1 t true,st.2)=s1 at *
   have m2:∀x,s1.1 x=true→x≤(nodeOf L t).b→x∈s1.2:=fun x hx hle=>by
    have:=low _ (.inr rfl);rcases r1.back x hx with h | h
    ·simp only [upd] at h;rw [if_neg (by omega)] at h;have:=hm x h (by omega);obtain ⟨M,e,_⟩:=r1.app;simp only at e;rw [e];exact List.mem_append_left _ this
    ·exact h
   have r2:=xP hW n (nodeOf L t).b s1 n2 r1.toOvOk m2
   have d2:=ih (nodeOf L t).b s1 n2 r1.toOvOk m2 d1
   generalize qV L n (nodeOf L t).b s1=s2 at *
   obtain ⟨M2,e2,_⟩:=r2.app
   refine d2.snoc fun k hk=>?_
   have hki:=(hkid k hk).1
   rcases jTB hk with rfl | rfl
   ·rw [e2];exact List.mem_append_left _ (r1.all hki _ (.refl _))
   ·exact r2.all hki _ (.refl _)
  ·rw [if_neg hc];exact ho
theorem jGH {L:Pool} (hW:Wf L) (t:Int):Ord L (subs L t) :=
 jRN hW (t.toNat+1) t (fun _=>false,[]) (by omega) ⟨by simp,by simp,by simp,by simp⟩ (by simp) (fun pre z post e=>by simp at e)
theorem jCK {L:Pool} (hW:Wf L) (t:Int):(subs L t).Nodup :=
 (xP hW (t.toNat+1) t (fun _=>false,[]) (by omega) ⟨by simp,by simp,by simp,by simp⟩ (by simp)).nd
end Go.Sp
end
section
namespace Go.Proofs
inductive Fld | from_ | to_ | num | text | fst | snd
deriving DecidableEq
def yQ (k:Int):List Fld :=
 if k=1 then [.from_] else if k=2 then [.num] else if k=3 then [.text] else if k=4 then [.fst,.snd] else if k=5 then [.fst] else if k=6 then [.from_] else if k=7 then [.from_,.fst] else if k=8 then [.from_,.to_,.fst] else if k=9 then [.from_,.to_,.fst] else []
def Fld.bytes (n:Sp.Node) (na nb:Nat):Fld→List UInt8
 | .from_=>vN n.frm.toNat | .to_=>vN n.to.toNat | .num=>vN n.num.toNat | .text=>qH n.text | .fst=>vN na | .snd=>vN nb
def posOf (seen:List Int) (t:Int):Nat:=seen.idxOf t
def yP (L:Sp.Pool) (seen:List Int) (t:Int):List UInt8 :=
 UInt8.ofNat (Sp.nodeOf L t).kind.toNat :: (yQ (Sp.nodeOf L t).kind).flatMap (Fld.bytes (Sp.nodeOf L t) (posOf seen (Sp.nodeOf L t).a) (posOf seen (Sp.nodeOf L t).b))
def textFrom (L:Sp.Pool):List Int→List Int→List UInt8
 | _,[]=>[]
 | seen,t :: l=>yP L seen t++textFrom L (seen++[t]) l
theorem tP (L:Sp.Pool) (l:List Int) (t:Int):∀seen,textFrom L seen (l++[t])=textFrom L seen l++yP L (seen++l) t:=by
 induction l with
 | nil=>intro seen;simp [textFrom]
 | cons x l ih=>intro seen;simp only [List.cons_append,textFrom];rw [ih];simp
def uG (L:Sp.Pool) (t:Int):List UInt8:=textFrom L [] (Sp.subs L t)
theorem jHZ {l l':List Int} {u:Int} (h:u∈l):posOf (l++l') u=posOf l u:=by unfold posOf;rw [List.idxOf_append,if_pos h]
theorem jHY {l:List Int} {z:Int} (h:z ∉ l):posOf (l++[z]) z=l.length:=by unfold posOf;rw [List.idxOf_append,if_neg h];simp
def jDO (L:Sp.Pool) (t:Int):List UInt8×Int:=if Sp.inP L t then (if (uG L t).length>4096 then ([],1) else (uG L t,0)) else ([],51)
end Go.Proofs
end
section
open Go Go.SE
namespace Go.Proofs
open Tryz
attribute [local irreducible] Calls CallsD
def Fld.put:Fld→FuncId
 | .from_=>182 | .to_=>186 | .num=>188 | .text=>190 | .fst=>194 | .snd=>196
def Fld.get:Fld→FuncId
 | .from_=>184 | .to_=>187 | .num=>189 | .text=>192 | .fst=>195 | .snd=>197
def Fld.row (f:Fld):List Value:=[.func (.func f.put) #[] #[],.func (.func f.get) #[] #[]]
structure PartsAt (w0 w:World) (m:Nat) (Bs:List (Addr×Fld)) (M:List (Int×Sl)):Prop where
 box:∀b∈Bs,Box w b.1 b.2.row 213∧b.1.block≠m
 map:IMap Sl.v w m M
 lst:∀p∈M,Lst (fun b=>w0.heap.size≤b∧b≠m) w 2 p.2 ((yQ p.1).map Fld.row)
 pure:Pure w0 w
 own:w0.heap.size≤m
theorem PartsAt.step {w0 w w1:World} {m:Nat} {Bs:List (Addr×Fld)} {M:List (Int×Sl)} (h:PartsAt w0 w m Bs M) {cs:Array Value} {p:Addr} (n1:New w (.cells cs 213) p w1) (k:Int) (n:Nat) (hn:(yQ k).length=n) (hcs:cs.toList=((yQ k).map Fld.row).flatten) (hk:SE.look M k=none) :
  ∃w2,(Instr.mapUpdate 203 (.map (some m)) (.int .i64 k) (Sl.mk (some p) n n).v).run prog w1=.ok () w2∧PartsAt w0 w2 m Bs (M++[(k,Sl.mk (some p) n n)]):=by
 have E1:Pure w w1:=Ext.new n1
 obtain ⟨w2,hr,hM,hE⟩:=(h.map.pure E1).put (P:=prog) (T:=203) underlying203 underlying3 hk (Sl.mk (some p) n n)
 have B1:=Box.of_newA n1
 have hb:=n1.at_size
 have hm:=h.map.lt
 refine ⟨w2,hr,⟨fun b hb=>⟨((h.box b hb).1.pure E1).ext hE (h.box b hb).2,(h.box b hb).2⟩,hM,?_,(h.pure.trans E1).trans' hE (fun i hi e=>by have:=h.own;omega),h.own⟩⟩
 intro q hq
 rcases List.mem_append.1 hq with hq | hq
 ·exact ((h.lst q hq).pure E1).ext hE (fun b hb=>hb.2)
 ·simp only [List.mem_singleton] at hq
  subst hq
  refine ⟨by simp [hn],fun i hi=>?_⟩
  have hi':i<(yQ k).length:=by simpa using hi
  refine ⟨p.add (i*2),⟨by omega,by simp;omega,p,rfl,by simp⟩,?_,?_⟩
  ·rw [zP];exact ⟨by have:=h.pure.size;omega,by omega⟩
  ·have hrow:Row w2 p cs.toList:=hE.row (B1.row) (by omega)
   intro j hj
   rw [xB]
   have hlen:∀r∈(yQ k).map Fld.row,r.length=2:=by intro r hr;obtain ⟨f,_,rfl⟩:=List.mem_map.1 hr;rfl
   have hj2:j<2:=by rw [hlen _ (List.getElem_mem hi)] at hj;exact hj
   have hg:=jBA hlen hi hj2
   have hlt:i*2+j<cs.toList.length:=by rw [hcs,vL hlen,List.length_map];omega
   rw [hrow _ hlt,hcs,hg]
structure BxsAt (w0 w:World) (Bs:List (Addr×Fld)):Prop where
 box:∀b∈Bs,Box w b.1 b.2.row 213
 pure:Pure w0 w
theorem BxsAt.step {w0 w w1:World} {Bs:List (Addr×Fld)} (h:BxsAt w0 w Bs) {p:Addr} (n1:New w (.cells #[.nilFunc,.nilFunc] 213) p w1) (f:Fld) {A:WP} (k:∀w',BxsAt w0 w' (Bs++[(p,f)])→A w'):(∀j,j<2→zQ w1 (p.add j))∧∀w',w'=storeRow w1 p f.row→A w':=by
 have E1:Pure w w1:=Ext.new n1;refine bx 2 (Box.of_newA n1) rfl rfl (fun w2 b E=>k w2 ⟨fun c hc=>?_,h.pure.own (p:=p) (by rw [n1.at_size];exact h.pure.size) ((Ext.pure E1).trans E)⟩);rcases List.mem_append.1 hc with hc | hc
 ·have hB:=h.box c hc;exact (hB.pure E1).ext E (fun e=>by have:=World.block_lt_of_cell? w c.1 hB.cell0;have:=n1.at_size;omega)
 ·simp only [List.mem_singleton] at hc;subst hc;exact b
theorem PartsAt.get {w0 w:World} {m:Nat} {Bs:List (Addr×Fld)} {M:List (Int×Sl)} (h:PartsAt w0 w m Bs M) {p:Addr} {f:Fld} (hb:(p,f)∈Bs):Row w p [.func (.func f.put) #[] #[],.func (.func f.get) #[] #[]]:=(h.box _ hb).1.row
theorem jUX (w0:World):Calls prog 138 #[] w0 (fun e w'=>∃x:Option Nat,e=.returned (.map x)∧∃m M,x=some m∧(∃Bs,PartsAt w0 w' m Bs M)∧M.map Prod.fst=[1,2,3,4,5,6,7,8,9]):=by
 refine w_V3 w0 (fun x w'=>∃m M,x=some m∧(∃Bs,PartsAt w0 w' m Bs M)∧M.map Prod.fst=[1,2,3,4,5,6,7,8,9]) ?_;unfold m_V3;have h0:BxsAt w0 w0 []:=⟨fun b hb=>(by cases hb),Ext.refl _⟩;intro p1 v1 n1;refine h0.step n1 .from_ (fun u1 h1=>?_);intro p2 v2 n2;refine h1.step n2 .to_ (fun u2 h2=>?_);intro p3 v3 n3;refine h2.step n3 .num (fun u3 h3=>?_);intro p4 v4 n4;refine h3.step n4 .text (fun u4 h4=>?_);intro p5 v5 n5;refine h4.step n5 .fst (fun u5 h5=>?_);intro p6 v6 n6;refine h5.step n6 .snd (fun u6 h6=>?_);intro p7 w1 n7;have g0:PartsAt w0 w1 p7.block _ []:=⟨fun b hb=>⟨(h6.box b hb).pure (Ext.new n7),fun e=>by have:=World.block_lt_of_cell? u6 b.1 (h6.box b hb).cell0;have:=n7.at_size;omega⟩,IMap.of_new n7,fun p hp=>(by cases hp),h6.pure.trans (Ext.new n7),by rw [n7.at_size];exact h6.pure.size⟩;refine ⟨_,_,g0.get (f:=.from_) (by simp),?_⟩;intro q1 x1 y1;obtain ⟨z1,r1,g1⟩:=g0.step y1 1 1 rfl rfl (by simp [SE.look]);refine ⟨z1,r1,?_⟩;refine ⟨_,_,g1.get (f:=.num) (by simp),?_⟩;intro q2 x2 y2;obtain ⟨z2,r2,g2⟩:=g1.step y2 2 1 rfl rfl (by simp [SE.look]);refine ⟨z2,r2,?_⟩;refine ⟨_,_,g2.get (f:=.text) (by simp),?_⟩;intro q3 x3 y3;obtain ⟨z3,r3,g3⟩:=g2.step y3 3 1 rfl rfl (by simp [SE.look]);refine ⟨z3,r3,?_⟩;refine ⟨_,_,g3.get (f:=.fst) (by simp),?_⟩;refine ⟨_,_,g3.get (f:=.snd) (by simp),?_⟩;intro q4 x4 y4;obtain ⟨z4,r4,g4⟩:=g3.step y4 4 2 rfl rfl (by simp [SE.look]);refine ⟨z4,r4,?_⟩;refine ⟨_,_,g4.get (f:=.fst) (by simp),?_⟩;intro q5 x5 y5;obtain ⟨z5,r5,g5⟩:=g4.step y5 5 1 rfl rfl (by simp [SE.look]);refine ⟨z5,r5,?_⟩;refine ⟨_,_,g5.get (f:=.from_) (by simp),?_⟩;intro q6 x6 y6;obtain ⟨z6,r6,g6⟩:=g5.step y6 6 1 rfl rfl (by simp [SE.look]);refine ⟨z6,r6,?_⟩;refine ⟨_,_,g6.get (f:=.from_) (by simp),?_⟩;refine ⟨_,_,g6.get (f:=.fst) (by simp),?_⟩;intro q7 x7 y7;obtain ⟨z7,r7,g7⟩:=g6.step y7 7 2 rfl rfl (by simp [SE.look]);refine ⟨z7,r7,?_⟩;refine ⟨_,_,g7.get (f:=.from_) (by simp),?_⟩;refine ⟨_,_,g7.get (f:=.to_) (by simp),?_⟩;refine ⟨_,_,g7.get (f:=.fst) (by simp),?_⟩;intro q8 x8 y8;obtain ⟨z8,r8,g8⟩:=g7.step y8 8 3 rfl rfl (by simp [SE.look]);refine ⟨z8,r8,?_⟩;refine ⟨_,_,g8.get (f:=.from_) (by simp),?_⟩;refine ⟨_,_,g8.get (f:=.to_) (by simp),?_⟩;refine ⟨_,_,g8.get (f:=.fst) (by simp),?_⟩;intro q9 x9 y9;obtain ⟨z9,r9,g9⟩:=g8.step y9 9 3 rfl rfl (by simp [SE.look]);refine ⟨z9,r9,?_⟩;exact ⟨p7.block,_,rfl,⟨_,g9⟩,rfl⟩
end Go.Proofs
end
section
namespace Go.Proofs
def Fld.rd (bs:List UInt8) (r:Rd):Fld→Rd
 | .text=>(qQ bs 64 r).2
 | _=>(qN bs r).2
structure Raw where
 num:Nat
 text:List UInt8
 frm:Nat
 to:Nat
 a:Nat
 b:Nat
 kids:Nat
def jAY:Raw:=⟨0,[],0,0,0,0,0⟩
def Fld.raw (bs:List UInt8) (r:Rd) (x:Raw):Fld→Raw
 | .from_=>{ x with frm:=(qN bs r).1 }
 | .to_=>{ x with to:=(qN bs r).1 }
 | .num=>{ x with num:=(qN bs r).1 }
 | .text=>{ x with text:=(qQ bs 64 r).1 }
 | .fst=>{ x with a:=(qN bs r).1,kids:=1 }
 | .snd=>{ x with b:=(qN bs r).1,kids:=2 }
def qD (bs:List UInt8):List Fld→Raw×Rd→Raw×Rd
 | [],s=>s
 | f :: l,(x,r)=>qD bs l (f.raw bs r x,f.rd bs r)
def nodeErr (k n:Nat) (x:Raw) (e:Nat):Nat :=
 if e≠0 then e
 else if 16≤x.frm∨16≤x.to∨((k=8∨k=9)∧x.frm=x.to) then 50
 else if (0<x.kids∧n≤x.a)∨(1<x.kids∧n≤x.b) then 71
 else 0
def Raw.node (k:Nat) (x:Raw):Sp.Node:=⟨k,x.frm,x.to,x.num,⟨x.text.toArray⟩,if 0<x.kids then (x.a:Int)+1 else 0,if 1<x.kids then (x.b:Int)+1 else 0⟩
def jCR (k:Nat):Bool:=decide (1≤k) && decide (k≤9)
def jCO (L:Sp.Pool) (k:Nat) (s:Raw×Rd):Sp.Pool×Int×Rd :=
 if nodeErr k L.length s.1 s.2.err≠0 then (L,((nodeErr k L.length s.1 s.2.err:Nat):Int),s.2)
 else if (Sp.find L (s.1.node k)).isSome=true then (L,72,s.2)
 else ((Sp.make L (s.1.node k)).2.2,(Sp.make L (s.1.node k)).2.1,s.2)
def vS (bs:List UInt8) (L:Sp.Pool) (r:Rd):Sp.Pool×Int×Rd :=
 if jCR (yT bs r).1=true then jCO L (yT bs r).1 (qD bs (yQ (yT bs r).1) (jAY,(yT bs r).2))
 else (L,70,(yT bs r).2)
def inRow:Nat→List Int→Nat
 | i,[]=>i
 | i,s :: l=>if s=(i:Int)+1 then inRow (i+1) l else i
def jDJ (L:Sp.Pool) (ps:List Nat):Option Sp.Pool×Int×Nat :=
 let i:=inRow 0 (Sp.subs L L.length)
 if h:i<ps.length then (none,73,ps[i]) else (some L,0,0)
def jJZ (bs:List UInt8):Nat→Sp.Pool→Rd→List Nat→Option Sp.Pool×Int×Nat
 | 0,L,_,ps=>jDJ L ps
 | n+1,L,r,ps =>
  if r.at_<bs.length then
   if (vS bs L r).2.1≠0 then (none,(vS bs L r).2.1,r.at_)
   else jJZ bs n (vS bs L r).1 (vS bs L r).2.2 (ps++[r.at_])
  else jDJ L ps
def qF (bs:List UInt8):Option Sp.Pool×Int×Nat :=
 if 4096<bs.length then (none,1,0) else if bs.length=0 then (none,3,0) else jJZ bs bs.length [] ⟨0,0,0⟩ []
def vM (Lq:Sp.Pool):List Int→Sp.Pool→(Int→Int)→Sp.Pool×Int×(Int→Int)
 | [],L,own=>(L,0,own)
 | s :: l,L,own =>
  let m:=Sp.make L { Sp.nodeOf Lq s with a:=own (Sp.nodeOf Lq s).a,b:=own (Sp.nodeOf Lq s).b }
  if m.2.1≠0 then (L,m.2.1,own) else vM Lq l m.2.2 (fun x=>if x=s then m.1 else own x)
def yU (L Lq:Sp.Pool) (t:Int):Int×Int×Sp.Pool :=
 if Sp.inP Lq t=true then
  let c:=vM Lq (Sp.subs Lq t) L (fun _=>0)
  if c.2.1≠0 then (0,c.2.1,L) else (c.2.2 t,0,c.1)
 else (0,51,L)
def jHC (L:Sp.Pool) (bs:List UInt8):Int×Int×Nat×Sp.Pool :=
 match (qF bs).1 with
 | none=>(0,(qF bs).2.1,(qF bs).2.2,L)
 | some q=>((yU L q q.length).1,(yU L q q.length).2.1,0,(yU L q q.length).2.2)
theorem jKC (bs:List UInt8) (r:Rd) (h:r.at_≤bs.length):r.at_≤(qN bs r).2.at_∧(qN bs r).2.at_≤bs.length:=by
 have key:∀(l:List UInt8) (i n:Nat) (m k:Nat),uV i n l=.ok (m,k)→k≤i+l.length∧i<k:=by
  intro l;induction l with
  | nil=>intro i n m k h;simp [uV] at h
  | cons c l ih =>
   intro i n m k h
   rw [xZ] at h
   split at h
   ·cases h
   ·split at h
    ·split at h
     ·cases h
     ·cases h;simp
    ·have:=ih _ _ _ _ h
     rw [List.length_cons];omega
 unfold qN;split
 ·split
  ·rename_i n k hk;have:=key _ _ _ _ _ hk;rw [List.length_drop] at this;simp only;omega
  ·exact ⟨Nat.le_refl _,h⟩
 ·exact ⟨Nat.le_refl _,h⟩
theorem jRL (bs:List UInt8) (m:Nat) (r:Rd) (h:r.at_≤bs.length):r.at_≤(qQ bs m r).2.at_∧(qQ bs m r).2.at_≤bs.length:=by
 have hn:=jKC bs r h;unfold qN at hn;unfold qQ;split
 ·rename_i he;rw [if_pos he] at hn;split
  ·rename_i n k hk;rw [hk] at hn;simp only at hn;split
   ·exact ⟨Nat.le_refl _,h⟩
   ·split
    ·exact ⟨Nat.le_refl _,h⟩
    ·simp only;omega
  ·exact ⟨Nat.le_refl _,h⟩
 ·exact ⟨Nat.le_refl _,h⟩
theorem Fld.rd_at (bs:List UInt8) (r:Rd) (f:Fld) (h:r.at_≤bs.length):r.at_≤(f.rd bs r).at_∧(f.rd bs r).at_≤bs.length:=by
 cases f <;> first | exact jRL bs 64 r h | exact jKC bs r h
theorem jHX (bs:List UInt8):∀(l:List Fld) (x:Raw) (r:Rd),r.at_≤bs.length→r.at_≤(qD bs l (x,r)).2.at_∧(qD bs l (x,r)).2.at_≤bs.length:=by
 intro l;induction l with
 | nil=>intro x r h;exact ⟨Nat.le_refl _,h⟩
 | cons f l ih =>
  intro x r h
  have h1:=f.rd_at bs r h
  have h2:=ih (f.raw bs r x) (f.rd bs r) h1.2
  rw [qD];omega
theorem jLL (bs:List UInt8) (r:Rd) (h:r.at_<bs.length) (he:r.err=0):yT bs r=(bs[r.at_].toNat,⟨r.at_+1,0,r.spot⟩):=by
 unfold yT;rw [if_pos he,dif_pos h]
theorem jBR (bs:List UInt8) (L:Sp.Pool) (r:Rd) (h:r.at_<bs.length) (he:r.err=0):vS bs L r =
  (if jCR bs[r.at_].toNat=true then jCO L bs[r.at_].toNat (qD bs (yQ bs[r.at_].toNat) (jAY,⟨r.at_+1,0,r.spot⟩)) else (L,70,⟨r.at_+1,0,r.spot⟩)):=by
 unfold vS
 rw [jLL bs r h he]
theorem jEN {L:Sp.Pool} {k:Nat} {s:Raw×Rd} (h:(jCO L k s).2.1=0):s.2.err=0∧nodeErr k L.length s.1 s.2.err=0∧Sp.find L (s.1.node k)=none∧(Sp.make L (s.1.node k)).2.1=0∧jCO L k s=((Sp.make L (s.1.node k)).2.2,0,s.2):=by
 unfold jCO at *;split at h
 ·rename_i h1;exact absurd (by simpa using h) h1
 ·rename_i h1;rw [if_neg h1];have h1:nodeErr k L.length s.1 s.2.err=0:=by omega
  have he':s.2.err=0:=by
   by_cases h2:s.2.err=0
   ·exact h2
   ·exfalso;unfold nodeErr at h1;rw [if_pos h2] at h1;exact h2 h1
  split at h
  ·simp at h
  ·rename_i h3;rw [if_neg h3];simp only at h;exact ⟨he',h1,by simpa using h3,h,by rw [h]⟩
theorem jHU (bs:List UInt8) (L:Sp.Pool) (r:Rd) (h:r.at_<bs.length) (he:r.err=0) (h0:(vS bs L r).2.1=0):r.at_<(vS bs L r).2.2.at_∧(vS bs L r).2.2.at_≤bs.length∧(vS bs L r).2.2.err=0:=by
 have hl:=jHX bs (yQ bs[r.at_].toNat) jAY ⟨r.at_+1,0,r.spot⟩ (by simp only;omega);simp only at hl;rw [jBR bs L r h he] at *;split at h0
 ·rename_i hk;rw [if_pos hk];obtain ⟨h1,_,_,_,h5⟩:=jEN h0;rw [h5];exact ⟨by simp only;omega,hl.2,h1⟩
 ·simp at h0
theorem jLK {bs:List UInt8} {L:Sp.Pool} {r:Rd} {ps:List Nat} (h:¬ r.at_<bs.length):∀n,jJZ bs n L r ps=jDJ L ps:=by
 intro n;cases n with
 | zero=>rfl
 | succ n=>rw [jJZ,if_neg h]
end Go.Proofs
end
section
open Go Go.SE
namespace Go.Proofs
open Tryz
attribute [local irreducible] Calls CallsD
theorem c_put {S:NP} (f:Fld) (s:Sl) (bs:List UInt8) (n:Sp.Node) (na nb mb:Nat) (M:List (Int×Int)) (w0:World) (hs:Lst S w0 1 s (byr bs)) (hz:s.a=none→s=Sl.nil) (hn:bs.length≤10000000000)
  (h1:0≤n.frm∧n.frm<9223372036854775808) (h2:0≤n.to∧n.to<9223372036854775808) (h3:0≤n.num∧n.num<18446744073709551616) (h4:n.text.size≤10000000000) (hM:IMap (fun i:Int=>.int .i64 i) w0 mb M)
  (ha:f=.fst→SE.look M n.a=some (na:Int)∧na<9223372036854775808) (hb:f=.snd→SE.look M n.b=some (nb:Int)∧nb<9223372036854775808) :
  Calls prog f.put #[s.v,.agg #[.int .i64 n.kind,.int .i64 n.frm,.int .i64 n.to,.int .u64 n.num,.string n.text,.int .i64 n.a,.int .i64 n.b],.map (some mb)] w0 (fun e w'=>∃r:Sl,e=.returned r.v∧RetO w0 5 1 (byr (bs++f.bytes n na nb)) r w'):=by
 cases f
 ·exact jQF s bs _ _ _ _ _ _ _ _ w0 hs hz hn n.frm.toNat (by omega) (by omega)
 ·exact jUW s bs _ _ _ _ _ _ _ _ w0 hs hz hn n.to.toNat (by omega) (by omega)
 ·exact jQE s bs _ _ _ _ _ _ _ _ w0 hs hz hn n.num.toNat (by omega) (by omega)
 ·exact jNM s bs _ _ _ _ _ _ _ _ w0 hs hz hn h4
 ·exact c_putA s bs _ _ _ _ _ _ _ w0 hs hz hn mb M na hM (ha rfl).1 (ha rfl).2
 ·exact c_putB s bs _ _ _ _ _ _ _ w0 hs hz hn mb M nb hM (hb rfl).1 (hb rfl).2
def Fld.upd (bs:List UInt8) (r:Rd) (cells:List Value):Fld→List Value
 | .from_=>cells.set 7 (.int .u64 ((qN bs r).1:Int))
 | .to_=>cells.set 8 (.int .u64 ((qN bs r).1:Int))
 | .num=>cells.set 3 (.int .u64 ((qN bs r).1:Int))
 | .text=>cells.set 4 (.string ⟨(qQ bs 64 r).1.toArray⟩)
 | .fst=>(cells.set 9 (.int .u64 ((qN bs r).1:Int))).set 11 (.int .i64 1)
 | .snd=>(cells.set 10 (.int .u64 ((qN bs r).1:Int))).set 11 (.int .i64 2)
theorem c_get {S:NP} (f:Fld) (a q:Addr) (s:Sl) (bs:List UInt8) (r:Rd) (cells:List Value) (w0:World) (h:RdS S w0 a s bs r) (hat:r.at_≤bs.length) (hS:∀b,S b→b<w0.heap.size) (hq:Box w0 q cells 253) (hl:cells.length=12) (haq:a.block≠q.block) (hSq:∀b,S b→b≠q.block) :
  Calls prog f.get #[.pointer (some a),.pointer (some q)] w0 (fun e w'=>e=.returned (.tuple #[])∧RdS S w' a s bs (f.rd bs r)∧Box w' q (f.upd bs r cells) 253∧Ext (fun b=>b=a.block∨b=q.block) w0 w'):=by
 cases f
 ·exact jQL a q s bs r cells w0 h hat hS hq hl haq hSq
 ·exact jUZ a q s bs r cells w0 h hat hS hq hl haq hSq
 ·exact jSP a q s bs r cells w0 h hat hS hq hl haq hSq
 ·exact jQK a q s bs r cells w0 h hat hS hq hl haq hSq
 ·exact c_getA a q s bs r cells w0 h hat hS hq hl haq hSq
 ·exact c_getB a q s bs r cells w0 h hat hS hq hl haq hSq
structure Kinds (w:World) (m:Nat) (F:NP):Prop where
 ex:∃M:List (Int×Sl),IMap Sl.v w m M∧(∀p∈M,Lst F w 2 p.2 ((yQ p.1).map Fld.row))∧M.map Prod.fst=[1,2,3,4,5,6,7,8,9]
 lt:∀b,F b→b<w.heap.size
 ne:∀b,F b→b≠m
theorem Kinds.ext {w w':World} {m:Nat} {F G:NP} (h:Kinds w m F) (E:Ext G w w') (hG:∀b,F b∨b=m→¬ G b):Kinds w' m F:=by
 obtain ⟨M,h1,h2,h3⟩:=h.ex;exact ⟨⟨M,h1.ext E (hG m (.inr rfl)),fun p hp=>(h2 p hp).ext E (fun b hb=>hG b (.inl hb)),h3⟩,fun b hb=>Nat.lt_of_lt_of_le (h.lt b hb) E.size,h.ne⟩
theorem Kinds.pure {w w':World} {m:Nat} {F:NP} (h:Kinds w m F) (E:Pure w w'):Kinds w' m F:=h.ext E (fun _ _ h=>h)
theorem Kinds.mlt {w:World} {m:Nat} {F:NP} (h:Kinds w m F):m<w.heap.size:=by obtain ⟨M,h1,_⟩:=h.ex;exact h1.lt
theorem lst_lt {S:NP} {w:World} {s:Sl} {rs:List (List Value)} {sz:Nat} (h:Lst S w sz s rs) (hr:∀r∈rs,0<r.length):Lst (fun b=>S b∧b<w.heap.size) w sz s rs :=
 ⟨h.len,fun i hi=>let ⟨a,h1,h2,h3⟩:=h.at_ i hi;⟨a,h1,⟨h2,by
  have h0:=hr _ (List.getElem_mem hi);have:=h3 0 h0;rw [List.getElem?_eq_getElem h0] at this;have:=World.block_lt_of_cell? w (a.add 0) this;rwa [zP] at this⟩,h3⟩⟩
theorem jQJ (w0:World):Calls prog 138 #[] w0 (fun e w'=>∃x:Option Nat,e=.returned (.map x)∧∃m F,x=some m∧Kinds w' m F∧Pure w0 w'∧w0.heap.size≤m∧∀b,F b→w0.heap.size≤b):=by
 refine (jUX w0).mono ?_;rintro _ w' ⟨x,rfl,m,M,rfl,⟨Bs,h⟩,hM⟩;refine ⟨_,rfl,m,fun b=>(w0.heap.size≤b∧b≠m)∧b<w'.heap.size,rfl,⟨⟨M,h.map,fun p hp=>lst_lt (h.lst p hp) (fun r hr=>by obtain ⟨f,_,rfl⟩:=List.mem_map.1 hr;simp [Fld.row]),hM⟩,fun b hb=>hb.2,fun b hb=>hb.1.2⟩,h.pure,h.own,fun b hb=>hb.1.1⟩
theorem Kinds.get {w:World} {m:Nat} {F:NP} (h:Kinds w m F) (k:Int) (h1:1≤k) (h9:k≤9) (ok:Bool) :
  ∃s:Sl,(Instr.lookup 203 (.map (some m)) (.int .i64 k) ok).run prog w=.ok (if ok then .tuple #[s.v,.bool true] else s.v) w∧Lst F w 2 s ((yQ k).map Fld.row):=by
 obtain ⟨M,hM,hL,hk⟩:=h.ex
 rcases hM.get (P:=prog) (T:=203) underlying203 underlying3 (zeroValue209 _) k ok with ⟨hn,_⟩ | ⟨s,hs,hr⟩
 ·have:=tB.1 hn
  rw [hk] at this
  simp at this;omega
 ·exact ⟨s,hr,hL _ (jBX hs)⟩
theorem Kinds.none {w:World} {m:Nat} {F:NP} (h:Kinds w m F) (k:Int) (hk:¬ (1≤k∧k≤9)):(Instr.lookup 203 (.map (some m)) (.int .i64 k) true).run prog w=.ok (.tuple #[Sl.nil.v,.bool false]) w:=by
 obtain ⟨M,hM,hL,hks⟩:=h.ex;rcases hM.get (P:=prog) (T:=203) underlying203 underlying3 (zeroValue209 _) k true with ⟨_,hr⟩ | ⟨s,hs,_⟩
 ·exact hr
 ·have:k∈M.map Prod.fst:=List.mem_map.2 ⟨_,jBX hs,rfl⟩;rw [hks] at this;simp at this;omega
def yK:Nat→List Int→List (Int×Int)
 | _,[]=>[]
 | i,t :: l=>(t,(i:Int)) :: yK (i+1) l
theorem jIB (l:List Int) (t:Int):∀i,yK i (l++[t])=yK i l++[(t,((i+l.length:Nat):Int))]:=by
 induction l with
 | nil=>intro i;simp [yK]
 | cons x l ih=>intro i;simp only [List.cons_append,yK,ih,List.length_cons];congr 3;simp;omega
theorem jIC (l:List Int):∀i,(yK i l).map Prod.fst=l:=by
 induction l with
 | nil=>intro i;rfl
 | cons x l ih=>intro i;simp [yK,ih]
theorem jKG (l:List Int):∀i,(yK i l).length=l.length:=by
 induction l with
 | nil=>intro i;rfl
 | cons x l ih=>intro i;simp [yK,ih]
theorem jDB (l:List Int) (t:Int) (ht:t∈l):∀i,SE.look (yK i l) t=some ((i+posOf l t:Nat):Int):=by
 induction l with
 | nil=>cases ht
 | cons x l ih =>
  intro i
  rw [yK,SE.look]
  by_cases e:x=t
  ·subst e;rw [if_pos rfl];simp [posOf]
  ·rw [if_neg e]
   have ht':t∈l:=(List.mem_cons.1 ht).resolve_left (fun h=>e h.symm)
   rw [ih ht']
   have:posOf (x :: l) t=posOf l t+1:=by
    have e0:(x == t)=false:=by simpa using e
    simp [posOf,List.idxOf_cons,e0]
   rw [this];congr 2;omega
end Go.Proofs
end
section
namespace Go.Sp
def tI (L:Pool):Prop:=∀e∈L,uI e.node.num
theorem tI.nil:tI []:=fun _ h=>(by cases h)
theorem tI.make {L:Pool} (h:tI L) {n:Node} (hn:uI n.num):tI (make L n).2.2:=by
 rcases jBV L n with e | ⟨_,e⟩
 ·rw [e];exact h
 ·rw [e];intro x hx;rcases List.mem_append.1 hx with hx | hx
  ·exact h x hx
  ·rw [List.mem_singleton] at hx;subst hx;exact hn
theorem tI.grow (t:Tree):∀L,tI L→NumT t→tI (grow L t).2.2:=by
 induction t using Tree.ind with
 | h k f t u x ks ih =>
  have:∀(ks:List Tree),(∀i (hi:i<ks.length),∀L,tI L→NumT ks[i]→tI (Sp.grow L ks[i]).2.2)→(∀i (hi:i<ks.length),NumT ks[i])→∀(n:Node) i L,uI n.num→tI L→tI (zY n i L ks).2.2:=by
   intro ks;induction ks with
   | nil=>intro _ _ n i L hn h;unfold zY;exact h.make hn
   | cons t ts iht =>
    intro hh hk n i L hn h
    have h0:=hh 0 (by simp) L h (hk 0 (by simp))
    simp only [List.getElem_cons_zero] at h0
    unfold zY
    split
    ·exact h0
    ·exact iht (fun i hi=>hh (i+1) (by simpa using hi)) (fun i hi=>hk (i+1) (by simpa using hi)) _ _ _ (by split <;> exact hn) h0
  intro L h hT
  cases hT with
  | mk _ _ _ _ _ _ own kids =>
   unfold Sp.grow
   exact this ks ih kids _ _ L own h
theorem tI.of {L:Pool} (h:tI L) {t:Tree} (hT:NumT t):tI (of L t).2.2:=by
 unfold Sp.of;split
 ·exact h
 ·split
  ·exact h
  ·exact tI.grow t L h hT
theorem tI.node {L:Pool} (h:tI L) (t:Int):uI (nodeOf L t).num:=by
 cases ht:inP L t with
 | true=>obtain ⟨e,he,hm,_⟩:=jBZ ht;simp only [nodeOf,he,Option.map_some,Option.getD_some];exact h e hm
 | false=>simp only [nodeOf,xM ht,Option.map_none,Option.getD_none];exact ⟨by decide,by decide⟩
theorem jGO {L:Pool} (hW:Wf L) {t:Int} (ht:inP L t=true):1≤(nodeOf L t).kind∧(nodeOf L t).kind≤9∧0≤(nodeOf L t).frm∧(nodeOf L t).frm<16∧0≤(nodeOf L t).to∧(nodeOf L t).to<16∧(nodeOf L t).text.size≤64:=by
 obtain ⟨h1,_,_,h4,_⟩:=hW.node ht;generalize nodeOf L t=n at *;have hp:isKind n.kind=true∧((shapeOf n.kind).frm=false→n.frm=0)∧((shapeOf n.kind).to=false→n.to=0):=by
  unfold zV at h1;simp only at h1;split at h1
  ·cases h1
  ·rename_i h;simp at h;exact ⟨h.1.1.1.1,h.1.1.1.2,h.1.1.2⟩
 have hk:=hp.1;simp only [isKind,Bool.and_eq_true,decide_eq_true_eq] at hk;have hf:((shapeOf n.kind).frm=true→xL n.frm=true)∧((shapeOf n.kind).to=true→xL n.to=true)∧n.text.size≤64:=by
  unfold zU at h4;split at h4
  ·cases h4
  ·rename_i h;split at h4
   ·cases h4
   ·simp at h;exact ⟨fun hh=>h.1 hh,fun hh=>(h.2 hh).1,by omega⟩
 refine ⟨hk.1,hk.2,?_⟩;have n1:0≤n.frm∧n.frm<16:=by
  cases hs:(shapeOf n.kind).frm with
  | true=>have:=hf.1 hs;simpa [xL] using this
  | false=>rw [hp.2.1 hs];decide
 have n2:0≤n.to∧n.to<16:=by
  cases hs:(shapeOf n.kind).to with
  | true=>have:=hf.2.1 hs;simpa [xL] using this
  | false=>rw [hp.2.2 hs];decide
 exact ⟨n1.1,n1.2,n2.1,n2.2,hf.2.2⟩
end Go.Sp
namespace Go.Proofs
theorem jGT (k:Int):(yQ k).length≤3:=by
 unfold yQ;repeat' split
 all_goals decide
theorem jPR (n:Sp.Node) (na nb:Nat) (f:Fld) (h1:n.frm<16) (h2:n.to<16) (h3:Sp.uI n.num) (h4:n.text.size≤64) (ha:na<65537) (hb:nb<65537):(f.bytes n na nb).length≤74:=by
 have h3:=h3.2;cases f <;> simp only [Fld.bytes,qH,List.length_append]
 ·have:=vR (n:=n.frm.toNat) (by omega);omega
 ·have:=vR (n:=n.to.toNat) (by omega);omega
 ·have:=vR (n:=n.num.toNat) (by omega);omega
 ·have:=vR (n:=n.text.size) (by omega);have:n.text.data.toList.length=n.text.size:=Array.length_toList;omega
 ·have:=vR (n:=na) (by omega);omega
 ·have:=vR (n:=nb) (by omega);omega
theorem jIO {α β:Type} (f:α→List β) (c:Nat):∀l:List α,(∀x∈l,(f x).length≤c)→(l.flatMap f).length≤c*l.length:=by
 intro l;induction l with
 | nil=>intro _;simp
 | cons a l ih =>
  intro h
  have h1:=h a (by simp)
  have h2:=ih (fun x hx=>h x (List.mem_cons_of_mem _ hx))
  rw [List.flatMap_cons,List.length_append,List.length_cons,Nat.mul_succ];omega
theorem tQ (l:List Int) (t:Int):posOf l t≤l.length:=List.idxOf_le_length
theorem jIE {L:Sp.Pool} (hW:Sp.Wf L) (hN:Sp.tI L) {seen:List Int} {t:Int} (ht:Sp.inP L t=true) (hs:seen.length≤65536):(yP L seen t).length≤300:=by
 obtain ⟨_,_,_,h1,_,h2,h4⟩:=Sp.jGO hW ht;have:=jIO (Fld.bytes (Sp.nodeOf L t) (posOf seen (Sp.nodeOf L t).a) (posOf seen (Sp.nodeOf L t).b)) 74 (yQ (Sp.nodeOf L t).kind) (fun f _=>jPR _ _ _ f h1 h2 (hN.node t) h4 (by have:=tQ seen (Sp.nodeOf L t).a;omega) (by have:=tQ seen (Sp.nodeOf L t).b;omega));have h3:=jGT (Sp.nodeOf L t).kind;have:74*(yQ (Sp.nodeOf L t).kind).length≤74*3:=Nat.mul_le_mul_left _ h3;unfold yP;rw [List.length_cons];omega
theorem jCX {L:Sp.Pool} (hW:Sp.Wf L) (hN:Sp.tI L):∀(l seen:List Int),(∀t∈l,Sp.inP L t=true)→seen.length+l.length≤65536→(textFrom L seen l).length≤300*l.length:=by
 intro l;induction l with
 | nil=>intro seen _ _;simp [textFrom]
 | cons t l ih =>
  intro seen h hl
  rw [List.length_cons] at hl
  have h1:=jIE hW hN (seen:=seen) (h t (by simp)) (by omega)
  have h2:=ih (seen++[t]) (fun x hx=>h x (List.mem_cons_of_mem _ hx)) (by rw [List.length_append,List.length_singleton];omega)
  rw [textFrom,List.length_append,List.length_cons,Nat.mul_succ];omega
end Go.Proofs
end
section
open Go Go.SE
namespace Go.Proofs
attribute [local irreducible] Calls
theorem uM (k:Int):(k=1∨k=2∨k=3∨k=4∨k=5∨k=6∨k=7∨k=8∨k=9)∨(Sp.shapeOf k=Sp.noShape∧Sp.isKind k=false∧∀m:Int,1≤m→m≤9→(k == m)=false):=by
 by_cases h:k=1∨k=2∨k=3∨k=4∨k=5∨k=6∨k=7∨k=8∨k=9
 ·exact .inl h
 ·right;refine ⟨?_,?_,fun m h1 h2=>?_⟩
  ·unfold Sp.shapeOf;repeat rw [if_neg (by omega)]
  ·unfold Sp.isKind;apply Bool.eq_false_iff.2;intro h3;simp at h3;omega
  ·rw [beq_eq_false_iff_ne];omega
theorem uK (k:Int):s_A k=(Sp.shapeOf k).kids:=by
 rcases uM k with h | ⟨h,_,hm⟩
 ·rcases h with rfl | rfl | rfl | rfl | rfl | rfl | rfl | rfl | rfl <;> decide
 ·rw [h];unfold s_A;simp [hm,Sp.noShape]
theorem jEM (k:Int):s_D k=(Sp.shapeOf k).frm:=by
 rcases uM k with h | ⟨h,_,hm⟩
 ·rcases h with rfl | rfl | rfl | rfl | rfl | rfl | rfl | rfl | rfl <;> decide
 ·rw [h];unfold s_D;simp [hm,Sp.noShape]
theorem jHN (k:Int):((k == 8) || (k == 9))=(Sp.shapeOf k).to:=by
 rcases uM k with h | ⟨h,_,hm⟩
 ·rcases h with rfl | rfl | rfl | rfl | rfl | rfl | rfl | rfl | rfl <;> decide
 ·rw [h];simp [hm,Sp.noShape]
theorem jOM (k:Int):(k == 2)=(Sp.shapeOf k).num:=by
 rcases uM k with h | ⟨h,_,hm⟩
 ·rcases h with rfl | rfl | rfl | rfl | rfl | rfl | rfl | rfl | rfl <;> decide
 ·rw [h];simp [hm,Sp.noShape]
theorem jML (k:Int):(k == 3)=(Sp.shapeOf k).text:=by
 rcases uM k with h | ⟨h,_,hm⟩
 ·rcases h with rfl | rfl | rfl | rfl | rfl | rfl | rfl | rfl | rfl <;> decide
 ·rw [h];simp [hm,Sp.noShape]
theorem jMM (k:Int):(!(decide (k<1) || decide (k>9)))=Sp.isKind k:=by
 unfold Sp.isKind;by_cases h1:k<1 <;> by_cases h2:k>9 <;> simp [h1,h2] <;> omega
theorem ite53 (q:Bool):decide ((if q=true then (53:Int) else 0)=0)=!q:=by cases q <;> rfl
def Sp.nodeErr (n:Sp.Node):Int :=
 if Sp.zV n≠0 then 53 else if (decide ((Sp.shapeOf n.kind).kids<1) && n.a != 0) || (decide ((Sp.shapeOf n.kind).kids<2) && n.b != 0) then 53 else Sp.zU (Sp.shapeOf n.kind) n
theorem jJY (n:Sp.Node):s_E1 n.kind n.frm n.to n.num n.text n.a n.b=(decide (Sp.zV n=0) && !((decide ((Sp.shapeOf n.kind).kids<1) && n.a != 0) || (decide ((Sp.shapeOf n.kind).kids<2) && n.b != 0))):=by
 obtain ⟨k,f,t,u,x,a,b⟩:=n;unfold s_E1 Sp.zV;simp only [uK,jEM,jHN k,jOM k,jML k,jMM];have hk:=Sp.yG k;generalize Sp.shapeOf k=s at *;obtain ⟨s1,s2,s3,s4,s5⟩:=s;generalize Sp.isKind k=i;have e1:decide (s5≥1)=!decide (s5<1):=by by_cases h:s5<1 <;> simp [h] <;> omega
 have e2:(s5 == 2)=!decide (s5<2):=by
  by_cases h:s5<2
  ·simp [h];omega
  ·simp [h];simp at hk;omega
 simp only [e1,e2,bne,ite53];generalize (f == 0)=c1;generalize (t == 0)=c2;generalize (u == 0)=c3;generalize decide (x=⟨#[]⟩)=c4;generalize (a == 0)=c5;generalize (b == 0)=c6;generalize decide (s5<1)=c7;generalize decide (s5<2)=c8;cases i <;> cases s1 <;> cases s2 <;> cases s3 <;> cases s4 <;> cases c1 <;> cases c2 <;> cases c3 <;> cases c4 <;> simp
theorem jEL (n:Sp.Node):s_J n.kind n.frm n.to n.num n.text n.a n.b=Sp.nodeErr n:=by
 unfold s_J Sp.nodeErr;rw [jJY,jEM,jHN];by_cases h1:Sp.zV n=0
 ·by_cases h2:((decide ((Sp.shapeOf n.kind).kids<1) && n.a != 0) || (decide ((Sp.shapeOf n.kind).kids<2) && n.b != 0))=true
  ·rw [h2];simp [h1]
  ·have h2:((decide ((Sp.shapeOf n.kind).kids<1) && n.a != 0) || (decide ((Sp.shapeOf n.kind).kids<2) && n.b != 0))=false:=by simpa using h2
   rw [h2];simp only [h1,ne_eq,not_true_eq_false,if_false,Bool.false_eq_true,decide_true,Bool.not_false,Bool.and_true,Bool.not_true,cond_false];unfold Sp.zU Sp.xL;have e1:(decide (n.frm≥0) && decide (n.frm<16))=(decide (0≤n.frm) && decide (n.frm<16)):=rfl;have e2:(decide (n.to≥0) && decide (n.to<16))=(decide (0≤n.to) && decide (n.to<16)):=rfl;have e3:(n.frm == n.to)=(n.to == n.frm):=by rw [Bool.eq_iff_iff];simp only [beq_iff_eq];exact eq_comm
   rw [e1,e2,e3];have e4:decide (((n.text.size:Int))>64)=decide (n.text.size>64):=decide_eq_decide.2 (by omega);rw [e4];generalize ((Sp.shapeOf n.kind).frm && !(decide (0≤n.frm) && decide (n.frm<16)) || (Sp.shapeOf n.kind).to && (!(decide (0≤n.to) && decide (n.to<16)) || n.to == n.frm))=c;cases c
   ·by_cases h:n.text.size>64 <;> simp [h]
   ·rfl
 ·simp [h1]
end Go.Proofs
end
section
open Go Go.SE
namespace Go.Proofs
open Tryz
attribute [local irreducible] Calls
theorem jLD:SlType prog 49 103 7 64:=by
 refine ⟨underlying49,⟨t103,_,by kernel_rfl,(by kernel_rfl:t103.zero=some (.agg #[.int .i64 0,.int .i64 0,.int .i64 0,.int .u64 0,.string ⟨#[]⟩,.int .i64 0,.int .i64 0])),by kernel_rfl,by kernel_rfl,rfl⟩,by omega⟩
theorem jCL:SlType prog 50 3 1 8:=by
 refine ⟨underlying50,⟨t3,_,by kernel_rfl,(by kernel_rfl:t3.zero=some (.int .i64 0)),by kernel_rfl,by kernel_rfl,rfl⟩,by omega⟩
def jRG (e:Sp.Ent):List Value:=xC e.node
def jUB (e:Sp.Ent):List Value:=[.int .i64 e.size]
def jOT (e:Sp.Ent):List Value:=[.int .i64 e.depth]
structure PoolRS (w:World) (p:Addr) (L:Sp.Pool) (s1 s2 s3:Sl):Prop where
 box:Box w p [s1.v,s2.v,s3.v] 52
 r1:Rws w 103 7 s1 (L.map jRG)
 r2:Rws w 3 1 s2 (L.map jUB)
 r3:Rws w 3 1 s3 (L.map jOT)
 n1:¬ s1.blk p.block
 n2:¬ s2.blk p.block
 n3:¬ s3.blk p.block
 d12:∀b,s1.blk b→¬ s2.blk b
 d13:∀b,s1.blk b→¬ s3.blk b
 d23:∀b,s2.blk b→¬ s3.blk b
def qR (w:World) (p:Addr) (L:Sp.Pool) (F:NP):Prop:=∃s1 s2 s3,PoolRS w p L s1 s2 s3∧∀b,F b↔(b=p.block∨s1.blk b∨s2.blk b∨s3.blk b)
theorem qR.ext {G:NP} {w w':World} {p:Addr} {L:Sp.Pool} {F:NP} (h:qR w p L F) (hE:Ext G w w') (hd:∀b,F b→¬ G b):qR w' p L F:=by
 obtain ⟨s1,s2,s3,h,hF⟩:=h;exact ⟨s1,s2,s3,⟨h.box.ext hE (hd _ ((hF _).2 (.inl rfl))),h.r1.ext hE (fun b hb=>hd _ ((hF _).2 (.inr (.inl hb)))),h.r2.ext hE (fun b hb=>hd _ ((hF _).2 (.inr (.inr (.inl hb))))),h.r3.ext hE (fun b hb=>hd _ ((hF _).2 (.inr (.inr (.inr hb))))),h.n1,h.n2,h.n3,h.d12,h.d13,h.d23⟩,hF⟩
theorem qR.pure {w w':World} {p:Addr} {L:Sp.Pool} {F:NP} (h:qR w p L F) (hE:Pure w w'):qR w' p L F:=h.ext hE (fun _ _ h=>h)
theorem qR.lt {w:World} {p:Addr} {L:Sp.Pool} {F:NP} (h:qR w p L F) {b:Nat} (hb:F b):b<w.heap.size:=by
 obtain ⟨s1,s2,s3,h,hF⟩:=h;rcases (hF b).1 hb with rfl | hb | hb | hb
 ·exact h.box.lt
 ·exact h.r1.lt hb
 ·exact h.r2.lt hb
 ·exact h.r3.lt hb
theorem jKV (w0:World):Calls prog 12 #[] w0 (fun e w'=>∃r:Option Addr,e=.returned (.pointer r)∧∃p F,r=some p∧qR w' p [] F∧Pure w0 w'∧∀b,F b→w0.heap.size≤b):=by
 refine w_P3 w0 (fun r w'=>∃p F,r=some p∧qR w' p [] F∧Pure w0 w'∧∀b,F b→w0.heap.size≤b) ?_;unfold m_P3;have hnil:∀b,¬ Sl.nil.blk b:=fun b hb=>by obtain ⟨a,h,_⟩:=hb;cases h
 intro p w1 h1;have b1:=Box.of_new h1;have E1:Pure w0 w1:=Ext.new h1
 first
  | exact ⟨p,(·=p.block),rfl,⟨Sl.nil,Sl.nil,Sl.nil,⟨b1,Rws.nil _ _ _,Rws.nil _ _ _,Rws.nil _ _ _,hnil _,hnil _,hnil _,fun b h=>(hnil b h).elim,fun b h=>(hnil b h).elim,fun b h=>(hnil b h).elim⟩,fun b=>by simp [hnil]⟩,E1,fun b hb=>by subst hb;exact New.own (Ext.refl w0) h1⟩
  | skip
theorem uO (p:Addr) (t:Int) (w0:World) {L:Sp.Pool} {F:NP} (hP:qR w0 p L F):Calls prog 19 #[.pointer (some p),.int .i64 t] w0 (fun e w'=>∃r:Bool,e=.returned (.bool r)∧(r=Sp.inP L t∧w'=w0)):=by
 refine w_R3 _ _ w0 (fun r w'=>r=Sp.inP L t∧w'=w0) ?_;unfold m_R3;obtain ⟨s1,s2,s3,h,hF⟩:=hP;have hl:s1.len=L.length:=by rw [h.r1.len];simp
 refine ⟨fun hc=>⟨p,rfl,s1,h.box.cell0,?_,rfl⟩,fun hc=>⟨?_,rfl⟩⟩
 ·have:=of_decide_eq_true hc;rw [hl];simp [Sp.inP,this]
 ·have:=of_decide_eq_false hc;simp [Sp.inP];omega
theorem PoolRS.at1 {w:World} {p:Addr} {L:Sp.Pool} {s1 s2 s3:Sl} (h:PoolRS w p L s1 s2 s3) {t:Int} (ht:Sp.inP L t=true) (hok:Sp.Ok L):∃e,Sp.get L t=some e ∧
  (∃a,At s1 (IntKind.i64.wrap (t - 1)) 7 a∧Row w a (jRG e))∧(∃a,At s2 (IntKind.i64.wrap (t - 1)) 1 a∧Row w a (jUB e))∧(∃a,At s3 (IntKind.i64.wrap (t - 1)) 1 a∧Row w a (jOT e)):=by
 obtain ⟨e,he,_,hi,hLe⟩:=Sp.jBZ ht
 have hin:=Sp.vA.1 ht
 have hf:=hok.few
 have hw:IntKind.i64.wrap (t - 1)=((t - 1).toNat:Int):=by rw [i64 (by omega) (by omega)];omega
 obtain ⟨a1,h1,g1⟩:=h.r1.nth (j:=(t - 1).toNat) hi
 obtain ⟨a2,h2,g2⟩:=h.r2.nth (j:=(t - 1).toNat) hi
 obtain ⟨a3,h3,g3⟩:=h.r3.nth (j:=(t - 1).toNat) hi
 rw [hLe] at g1 g2 g3
 rw [hw]
 exact ⟨e,he,⟨a1,h1,g1⟩,⟨a2,h2,g2⟩,⟨a3,h3,g3⟩⟩
theorem jDG (p:Addr) (t:Int) (w0:World) {L:Sp.Pool} {F:NP} (hP:qR w0 p L F) (hok:Sp.Ok L):Calls prog 89 #[.pointer (some p),.int .i64 t] w0 (fun e w'=>∃r:Int,e=.returned (.int .i64 r)∧(r=Sp.sizeOf L t∧w'=w0)):=by
 refine w_S3 _ _ w0 (fun r w'=>r=Sp.sizeOf L t∧w'=w0) ?_;unfold m_S3;refine (uO p t w0 hP).mono ?_;rintro _ _ ⟨_,rfl,rfl,rfl⟩;refine ⟨_,rfl,fun h=>⟨?_,rfl⟩,fun h=>?_⟩
 ·have h:Sp.inP L t=false:=by simpa using h
  simp [Sp.sizeOf,Sp.xM h]
 ·have h:Sp.inP L t=true:=by simpa using h
  obtain ⟨s1,s2,s3,hS,hF⟩:=hP;obtain ⟨e,he,_,⟨a,hat,hr⟩,_⟩:=hS.at1 h hok;exact ⟨p,rfl,s2,hS.box.cell rfl,a,hat,_,jBQ hr,by simp [Sp.sizeOf,he],rfl⟩
theorem jCB (p:Addr) (t:Int) (w0:World) {L:Sp.Pool} {F:NP} (hP:qR w0 p L F) (hok:Sp.Ok L):Calls prog 154 #[.pointer (some p),.int .i64 t] w0 (fun e w'=>∃r:Int,e=.returned (.int .i64 r)∧(r=Sp.depthOf L t∧w'=w0)):=by
 refine w_T3 _ _ w0 (fun r w'=>r=Sp.depthOf L t∧w'=w0) ?_;unfold m_T3;refine (uO p t w0 hP).mono ?_;rintro _ _ ⟨_,rfl,rfl,rfl⟩;refine ⟨_,rfl,fun h=>⟨?_,rfl⟩,fun h=>?_⟩
 ·have h:Sp.inP L t=false:=by simpa using h
  simp [Sp.depthOf,Sp.xM h]
 ·have h:Sp.inP L t=true:=by simpa using h
  obtain ⟨s1,s2,s3,hS,hF⟩:=hP;obtain ⟨e,he,_,_,⟨a,hat,hr⟩⟩:=hS.at1 h hok;exact ⟨p,rfl,s3,hS.box.cell rfl,a,hat,_,jBQ hr,by simp [Sp.depthOf,he],rfl⟩
theorem jRQ (m n:Sp.Node):((m.kind == n.kind) && ((m.frm == n.frm) && ((m.to == n.to) && ((m.num == n.num) && ((decide (m.text=n.text)) && ((m.a == n.a) && (m.b == n.b)))))))=decide (m=n):=by
 obtain ⟨k,f,t,u,x,a,b⟩:=m;obtain ⟨k',f',t',u',x',a',b'⟩:=n;rw [Bool.eq_iff_iff];simp
theorem jKW (p:Addr) (n:Sp.Node) (w0:World) {L:Sp.Pool} {F:NP} (hP:qR w0 p L F) (hok:Sp.Ok L):Calls prog 155 #[.pointer (some p),jDL n] w0
  (fun e w'=>∃r:Int,∃ok:Bool,e=.returned (.tuple #[.int .i64 r,.bool ok])∧((match Sp.find L n with | some i=>r=(i:Int)+1∧ok=true | none=>r=0∧ok=false)∧Pure w0 w')):=by
 obtain ⟨k,f,t,u,x,a,b⟩:=n
 generalize hn:(⟨k,f,t,u,x,a,b⟩:Sp.Node)=n
 have hnk:jDL n=.agg #[.int .i64 k,.int .i64 f,.int .i64 t,.int .u64 u,.string x,.int .i64 a,.int .i64 b]:=by rw [← hn];rfl
 rw [hnk]
 suffices key:∀K:Int→Bool→WP,(∀r ok w',((match Sp.find L n with | some i=>r=(i:Int)+1∧ok=true | none=>r=0∧ok=false)∧Pure w0 w')→K r ok w')→m_K1 (some p) k f t u x a b w0 K from
  w_K1 _ _ _ _ _ _ _ _ w0 _ (key _ (fun _ _ _ h=>h))
 intro K hK
 unfold m_K1
 intro H1 w1 hs1
 refine ⟨fun i H w'=>∃j:Nat,i=j∧j≤L.length∧Pure w0 w'∧∀q,q<j→∀e,L[q]?=some e→e.node≠n,fun i _=>((L.length:Int) - i).toNat,⟨0,rfl,Nat.zero_le _,hs1.first,fun q hq=>absurd hq (by omega)⟩,?_⟩
 rintro _ Hl wl hl ⟨j,rfl,hj,El,hno⟩
 unfold m_K1_l1
 obtain ⟨s1,s2,s3,hS,hF⟩:=hP.pure El
 have hf:=hok.few
 have hlen:s1.len=L.length:=by rw [hS.r1.len];simp
 refine ⟨p,rfl,s1,hS.box.cell0,fun h=>?_,fun h=>?_⟩
 ·have hlt:=uY hlen h
  refine ⟨p,rfl,?_⟩
  intro w2 hs2
  have E2:=El.hst hs2
  obtain ⟨s1',s2',s3',hS',_⟩:=hP.pure E2
  obtain ⟨a',hat,hr⟩:=hS'.r1.nth hlt
  refine ⟨s1',hS'.box.cell0,a',hat,_,_,_,_,_,_,_,hr,?_⟩
  have hB:=jRQ L[j].node n
  rw [← hn] at hB
  simp only at hB
  rw [hB,hn]
  refine ⟨fun h=>?_,fun h=>?_⟩
  ·have h:=of_decide_eq_true h
   rw [vQ hlt (by omega)]
   refine hK _ _ _ ⟨?_,E2⟩
   have hfd:Sp.find L n=some j:=by
    unfold Sp.find;rw [List.findIdx?_eq_some_iff_getElem];exact ⟨hlt,by simp [h],fun q hq=>by simpa using hno q hq _ (List.getElem?_eq_getElem (by omega))⟩
   rw [hfd];exact ⟨by omega,rfl⟩
  ·have h:=of_decide_eq_false h
   rw [vQ hlt (by omega)]
   refine ⟨⟨j+1,rfl,hlt,E2,fun q hq e he=>?_⟩,jES hlt⟩
   by_cases hqj:q=j
   ·subst hqj;rw [List.getElem?_eq_getElem hlt] at he;cases he;exact h
   ·exact hno q (by omega) e he
 ·have hge:=tE hlen hj h
  subst hge
  refine hK _ _ _ ⟨?_,El⟩
  have hfd:Sp.find L n=none:=find_none (fun e he=>by
   obtain ⟨q,hq,rfl⟩:=List.mem_iff_getElem.1 he;exact hno q hq _ (List.getElem?_eq_getElem hq))
  rw [hfd];exact ⟨rfl,rfl⟩
theorem jFF {P:Program} {t ty e:TypeId} {sz bytes:Nat} (T:SlType P t e sz bytes) {w:World} {p:Addr} {c:List Value} {Tp:TypeId} (hB:Box w p c Tp) {s:Sl} {rs:List (List Value)} (hR:Rws w e sz s rs) (hp:¬ s.blk p.block) {a:Addr} {r:List Value} (hr:Row w a r) (hl:r.length=sz) (h1:r.all qB=true) (hb:(rs.length+1)*bytes≤140737488355328) (hm:rs.length+1≤maxLen) :
  ∃s' w',(Builtin.append_ #[t,t] ty #[s.v,(Sl.mk (some a) 1 1).v]).run P w=.ok s'.v w'∧Rws w' e sz s' (rs++[r])∧Box w' p c Tp∧¬ s'.blk p.block∧Ext s.blk w w'∧(∀b,s'.blk b→s.blk b∨w.heap.size≤b):=by
 obtain ⟨s',w',hr',hR',hE,hb'⟩:=hR.append T (ty:=ty) (c:=1) hr hl h1 hb hm
 exact ⟨s',w',hr',hR',hB.ext hE hp,fun h=>(hb' _ h).elim hp (fun h=>by have:=hB.lt;omega),hE,hb'⟩
theorem jCZ (n:Sp.Node):Sp.zV n=53∨Sp.zV n=0:=by
 unfold Sp.zV;simp only;split
 ·exact .inl rfl
 ·exact .inr rfl
theorem jJE (p:Addr) (n:Sp.Node) (w0:World) {L:Sp.Pool} {F:NP} (hP:qR w0 p L F) (hok:Sp.Ok L):Calls prog 112 #[.pointer (some p),jDL n] w0
  (fun e w'=>∃r1 r2:Int,e=.returned (.tuple #[.int .i64 r1,.int .i64 r2])∧((r1,r2)=((Sp.make L n).1,(Sp.make L n).2.1)∧∃F',qR w' p (Sp.make L n).2.2 F'∧Ext F w0 w'∧∀b,F' b→F b∨w0.heap.size≤b)):=by
 obtain ⟨k,f,t,u,x,a,b⟩:=n
 generalize hn:(⟨k,f,t,u,x,a,b⟩:Sp.Node)=n
 have hnk:jDL n=.agg #[.int .i64 k,.int .i64 f,.int .i64 t,.int .u64 u,.string x,.int .i64 a,.int .i64 b]:=by rw [← hn];rfl
 rw [hnk]
 suffices key:∀K:Int→Int→WP,(∀r1 r2 w',((r1,r2)=((Sp.make L n).1,(Sp.make L n).2.1)∧∃F',qR w' p (Sp.make L n).2.2 F'∧Ext F w0 w'∧∀b,F' b→F b∨w0.heap.size≤b)→K r1 r2 w')→m_R (some p) k f t u x a b w0 K from
  w_R _ _ _ _ _ _ _ _ w0 _ (key _ (fun _ _ _ h=>h))
 intro K hK
 have hsh:=jEL n
 have hkd:=uK k
 rw [← hn] at hsh
 simp only at hsh
 rw [hn] at hsh
 have hna:n.a=a:=by rw [← hn]
 have hnb:n.b=b:=by rw [← hn]
 have hnkk:n.kind=k:=by rw [← hn]
 have hk:=Sp.yG k
 have same:∀(r1 r2:Int) (w':World),Pure w0 w'→Sp.make L n=(r1,r2,L)→K r1 r2 w':=fun r1 r2 w' E h=>hK _ _ _ ⟨by rw [h],F,by rw [h];exact hP.pure E,E.pure,fun b h=>.inl h⟩
 have bad:∀(er:Int) (w':World),er≠0→Pure w0 w'→Sp.check L n=(0,0,er)→K 0 er w':=fun er w' h0 E h=>same 0 er w' E (by unfold Sp.make;simp [h,h0])
 unfold m_R
 rw [hsh,hkd]
 have good:Sp.nodeErr n=0→Sp.check L n=(if (Sp.zH n).any (fun t=>!Sp.inP L t) then (0,0,51) else if 1+((Sp.zH n).map (Sp.sizeOf L)).sum>4096∨(Sp.zH n).foldl (fun d t=>max d (Sp.depthOf L t)) 0+1>64 then (0,0,52) else (1+((Sp.zH n).map (Sp.sizeOf L)).sum,(Sp.zH n).foldl (fun d t=>max d (Sp.depthOf L t)) 0+1,0)):=by
  intro h;unfold Sp.nodeErr at h;unfold Sp.check;split at h
  ·cases h
  ·rename_i h1;simp only;rw [if_neg h1];split at h
   ·cases h
   ·rename_i h2;rw [if_neg h2,if_neg (by simpa using h)]
 refine ⟨fun h=>?_,fun h=>?_⟩
 ·intro H1 w2 hs2
  have h:Sp.nodeErr n≠0:=by simpa using h
  refine bad _ _ h hs2.first ?_
  unfold Sp.nodeErr at h ⊢
  unfold Sp.check
  by_cases h1:Sp.zV n≠0
  ·rw [if_pos h1,if_pos h1]
   have:Sp.zV n=53:=(jCZ n).resolve_right h1
   rw [this]
  ·rw [if_neg h1] at h ⊢
   simp only
   rw [if_neg h1]
   by_cases h2:((decide ((Sp.shapeOf n.kind).kids<1) && n.a != 0) || (decide ((Sp.shapeOf n.kind).kids<2) && n.b != 0))=true
   ·rw [if_pos h2,if_pos h2]
   ·rw [if_neg h2] at h ⊢;rw [if_neg h2,if_pos h]
 have h0:Sp.nodeErr n=0:=by simpa using h
 have hchk:=good h0
 have hzero:((Sp.shapeOf k).kids<1→a=0)∧((Sp.shapeOf k).kids<2→b=0):=by
  unfold Sp.nodeErr at h0;split at h0
  ·cases h0
  ·split at h0
   ·cases h0
   ·rename_i _ h2;rw [hnkk,hna,hnb] at h2;simp at h2;exact h2
 have hz0:Sp.inP L 0=false:=by simp [Sp.inP]
 have hs0:Sp.sizeOf L 0=0:=by simp [Sp.sizeOf,Sp.get,hz0]
 have hd0:Sp.depthOf L 0=0:=by simp [Sp.depthOf,Sp.get,hz0]
 have hsa:=hok.sizeOf a
 have hsb:=hok.sizeOf b
 have hda:=hok.depthOf a
 have hdb:=hok.depthOf b
 have hany:(Sp.zH n).any (fun t=>!Sp.inP L t)=((decide (1≤(Sp.shapeOf k).kids) && !Sp.inP L a) || (decide ((Sp.shapeOf k).kids=2) && !Sp.inP L b)):=by
  unfold Sp.zH;rw [hnkk,hna,hnb];rcases hk with h | h | h <;> rw [h] <;> simp
 have hsum:((Sp.zH n).map (Sp.sizeOf L)).sum=Sp.sizeOf L a+Sp.sizeOf L b:=by
  unfold Sp.zH;rw [hnkk,hna,hnb];rcases hk with h | h | h <;> rw [h] <;> simp
  ·rw [hzero.1 (by omega),hzero.2 (by omega),hs0];rfl
  ·rw [hzero.2 (by omega),hs0];omega
 have hmax:(Sp.zH n).foldl (fun d t=>max d (Sp.depthOf L t)) 0=max (Sp.depthOf L a) (Sp.depthOf L b):=by
  unfold Sp.zH;rw [hnkk,hna,hnb];rcases hk with h | h | h <;> rw [h] <;> simp
  ·rw [hzero.1 (by omega),hzero.2 (by omega),hd0];omega
  ·rw [hzero.2 (by omega),hd0];omega
  ·omega
 rw [hany,hsum,hmax] at hchk
 have J1:∀(x1:Bool) (H:NP) (w:World),Hst w0 H w H w→Pure w0 w→x1=((decide (1≤(Sp.shapeOf k).kids) && !Sp.inP L a) || (decide ((Sp.shapeOf k).kids=2) && !Sp.inP L b))→m_R_j1 (some p) k f t u x a b x1 w0 H w K:=by
  intro x1 H w hs E hx;rw [← hx] at hchk;unfold m_R_j1;refine ⟨fun h=>bad 51 w (by omega) E (by rw [hchk,h];rfl),fun h=>?_⟩;rw [h,if_neg (by simp)] at hchk;refine ⟨fun _=>True,trivial,?_⟩;rintro _ rfl;have Ed:Pure w0 w.drew:=E.trans (Ext.drew w);refine (jDG p a w.drew (hP.pure Ed) hok).mono ?_;rintro _ _ ⟨_,rfl,rfl,rfl⟩;refine ⟨_,rfl,trivial,Kept.refl _,?_⟩;refine (jDG p b w.drew (hP.pure Ed) hok).mono ?_;rintro _ _ ⟨_,rfl,rfl,rfl⟩;refine ⟨_,rfl,trivial,Kept.refl _,fun _=>True,trivial,?_⟩;rintro _ rfl;have Ed2:Pure w0 w.drew.drew:=Ed.trans (Ext.drew w.drew);refine (jCB p a w.drew.drew (hP.pure Ed2) hok).mono ?_;rintro _ _ ⟨_,rfl,rfl,rfl⟩;refine ⟨_,rfl,trivial,Kept.refl _,?_⟩;refine (jCB p b w.drew.drew (hP.pure Ed2) hok).mono ?_;rintro _ _ ⟨_,rfl,rfl,rfl⟩;refine ⟨_,rfl,trivial,Kept.refl _,_,fun w' _=>run_max_int2 _ _ _ _ _ _ _,?_⟩;have hmx:(if Sp.depthOf L b>Sp.depthOf L a then Sp.depthOf L b else Sp.depthOf L a)=max (Sp.depthOf L a) (Sp.depthOf L b):=by
   split <;> omega
  generalize hz:(if Sp.depthOf L b>Sp.depthOf L a then Sp.depthOf L b else Sp.depthOf L a)=z at *;have hz64:0≤z∧z≤64:=by rw [hmx];omega
  have e1:IntKind.i64.wrap (IntKind.i64.wrap (1+Sp.sizeOf L a)+Sp.sizeOf L b)=1+(Sp.sizeOf L a+Sp.sizeOf L b):=by
   rw [i64 (n:=1+Sp.sizeOf L a) (by omega) (by omega),i64 (by omega) (by omega)];omega
  have e2:IntKind.i64.wrap (1+z)=z+1:=by rw [i64 (by omega) (by omega)];omega
  rw [e1,e2];rw [← hmx] at hchk;rintro y1 rfl;have hsx:Hst w0 H w.drew.drew H w.drew.drew:=(hs.drew.here.drew).here;refine ⟨fun h=>?_,fun h=>?_⟩
  ·intro H2 w10 hs10;refine bad 52 w10 (by omega) (Ed2.hst hs10) ?_;rw [hchk,if_pos (by simpa using h)]
  ·intro H2 w10 hs10;have hck:Sp.check L n=(1+(Sp.sizeOf L a+Sp.sizeOf L b),z+1,0):=by rw [hchk,if_neg (by simp at h;omega)]
   have E10:=Ed2.hst hs10;rw [← hnk];refine (jKW p n w10 (hP.pure E10) hok).mono ?_;rintro _ w11 ⟨r,ok,rfl,hfd,E11⟩;refine ⟨_,_,rfl,E11.keptP,?_⟩;have E11':=E10.trans E11;have hs11:Hst w0 H2 w11 H2 w11:=hs10.again E11.keptP;cases hf:Sp.find L n with
   | some i =>
    rw [hf] at hfd
    obtain ⟨rfl,rfl⟩:=hfd
    exact Br.t rfl (same _ _ _ E11' (by unfold Sp.make;simp [hck,hf]))
   | none =>
    rw [hf] at hfd
    obtain ⟨rfl,rfl⟩:=hfd
    refine Br.f rfl ?_
    obtain ⟨s1,s2,s3,hS,hF⟩:=hP.pure E11'
    have hlen:s1.len=L.length:=by rw [hS.r1.len];simp
    refine ⟨p,rfl,s1,hS.box.cell0,fun h=>?_,fun h=>?_⟩
    ·have h2:65536≤L.length:=by have h:=of_decide_eq_true h;omega
     exact same _ _ _ E11' (by unfold Sp.make;simp [hck,hf,h2])
    ·have h2:¬ 65536≤L.length:=by have h:=of_decide_eq_false h;omega
     have hmk:Sp.make L n=((L.length:Int)+1,0,L++[⟨n,1+(Sp.sizeOf L a+Sp.sizeOf L b),z+1⟩]):=by unfold Sp.make;simp [hck,hf,h2]
     have hvis:∀b,F b→¬ H2 b:=fun b hb h2=>by have:=hP.lt hb;have:=hs11.old b h2;omega
     have hpF:F p.block:=(hF _).2 (.inl rfl)
     refine ⟨fun w'=>w'.cell? p=some s1.v,hS.box.cell0,?_⟩
     rintro _ rfl
     have E12:Pure w11 w11.drew:=Ext.drew w11
     refine ⟨p,rfl,s1,fun w' h'=>h',?_⟩
     intro p3 w13 h13
     have E13:Pure w11 w13:=E12.trans (Ext.new h13)
     have B13:=hS.box.pure E13
     refine ⟨B13.cell0,?_⟩
     obtain ⟨t1,w14,hr14,R14,B14,np1,X14,nb1⟩:=jFF (P:=prog) (ty:=49) jLD B13 (hS.r1.pure E13) hS.n1 (a:=p3) (r:=xC n) (by rw [← hn];exact (Box.of_new h13).row) rfl rfl (by simp;omega) (by simp [maxLen];omega)
     refine ⟨t1,w14,hr14,B14.cell0,X14.kept (fun b hb h=>hvis b ((hF b).2 (.inr (.inl h))) hb),p,rfl,B14.canW0 (by simp),hvis _ hpF,?_⟩
     rintro w15 hw15
     have B15:Box w15 p [t1.v,s2.v,s3.v] 52:=by rw [hw15];exact B14.set0
     have X15:Ext (·=p.block) w14 w15:=by rw [hw15];exact Ext.setCell p _
     clear hw15
     have R15:=R14.ext X15 (fun b hb e=>np1 (e▸hb))
     have R2:=((hS.r2.pure E13).ext X14 (fun b h2 h1=>hS.d12 b h1 h2)).ext X15 (fun b hb e=>hS.n2 (e▸hb))
     have R3:=((hS.r3.pure E13).ext X14 (fun b h2 h1=>hS.d13 b h1 h2)).ext X15 (fun b hb e=>hS.n3 (e▸hb))
     have d12':∀b,t1.blk b→¬ s2.blk b:=fun b hb h2=>(nb1 b hb).elim (fun h=>hS.d12 b h h2) (fun h=>by have:=hS.r2.lt h2;have:=E13.size;omega)
     have d13':∀b,t1.blk b→¬ s3.blk b:=fun b hb h2=>(nb1 b hb).elim (fun h=>hS.d13 b h h2) (fun h=>by have:=hS.r3.lt h2;have:=E13.size;omega)
     refine ⟨p,rfl,s2,B15.cell rfl,?_⟩
     intro p4 w16 h16
     have E16:Pure w15 w16:=Ext.new h16
     have B16:=B15.pure E16
     obtain ⟨t2,w17,hr17,R17,B17,np2,X17,nb2⟩:=jFF (P:=prog) (ty:=50) jCL B16 (R2.pure E16) hS.n2 (a:=p4) (r:=[.int .i64 (1+(Sp.sizeOf L a+Sp.sizeOf L b))]) (Box.of_new h16).row rfl rfl (by simp;omega) (by simp [maxLen];omega)
     refine ⟨t2,w17,hr17,X17.kept (fun b hb h=>hvis b ((hF b).2 (.inr (.inr (.inl h)))) hb),p,rfl,B17.canW (by simp),by rw [zP];exact hvis _ hpF,?_⟩
     rintro w18 hw18
     have B18:Box w18 p [t1.v,t2.v,s3.v] 52:=by rw [hw18];exact B17.set 1 _
     have X18:Ext (·=p.block) w17 w18:=by rw [hw18];have:=Ext.setCell (w:=w17) (p.add 1) t2.v;rw [zP] at this;exact this
     clear hw18
     have Q1:=((R15.pure E16).ext X17 (fun b h1 h2=>d12' b h1 h2)).ext X18 (fun b hb e=>np1 (e▸hb))
     have Q2:=R17.ext X18 (fun b hb e=>np2 (e▸hb))
     have Q3:=((R3.pure E16).ext X17 (fun b h3 h2=>hS.d23 b h2 h3)).ext X18 (fun b hb e=>hS.n3 (e▸hb))
     have d12'':∀b,t1.blk b→¬ t2.blk b:=fun b hb h2=>(nb2 b h2).elim (fun h=>d12' b hb h) (fun h=>by have:=(R15.pure E16).lt hb;omega)
     have d23':∀b,t2.blk b→¬ s3.blk b:=fun b hb h2=>(nb2 b hb).elim (fun h=>hS.d23 b h h2) (fun h=>by have:=(R3.pure E16).lt h2;omega)
     refine ⟨p,rfl,s3,B18.cell rfl,?_⟩
     intro p5 w19 h19
     have E19:Pure w18 w19:=Ext.new h19
     have B19:=B18.pure E19
     obtain ⟨t3,w20,hr20,R20,B20,np3,X20,nb3⟩:=jFF (P:=prog) (ty:=50) jCL B19 (Q3.pure E19) hS.n3 (a:=p5) (r:=[.int .i64 (z+1)]) (Box.of_new h19).row rfl rfl (by simp;omega) (by simp [maxLen];omega)
     refine ⟨t3,w20,hr20,X20.kept (fun b hb h=>hvis b ((hF b).2 (.inr (.inr (.inr h)))) hb),p,rfl,B20.canW (by simp),by rw [zP];exact hvis _ hpF,?_⟩
     rintro w21 hw21
     have B21:Box w21 p [t1.v,t2.v,t3.v] 52:=by rw [hw21];exact B20.set 2 _
     have X21:Ext (·=p.block) w20 w21:=by rw [hw21];have:=Ext.setCell (w:=w20) (p.add 2) t3.v;rw [zP] at this;exact this
     clear hw21
     have d13'':∀b,t1.blk b→¬ t3.blk b:=fun b hb h2=>(nb3 b h2).elim (fun h=>d13' b hb h) (fun h=>by have:=(Q1.pure E19).lt hb;omega)
     have d23'':∀b,t2.blk b→¬ t3.blk b:=fun b hb h2=>(nb3 b h2).elim (fun h=>d23' b hb h) (fun h=>by have:=(Q2.pure E19).lt hb;omega)
     have Z1:=((Q1.pure E19).ext X20 (fun b h1 h2=>d13' b h1 h2)).ext X21 (fun b hb e=>np1 (e▸hb))
     have Z2:=((Q2.pure E19).ext X20 (fun b h1 h2=>d23' b h1 h2)).ext X21 (fun b hb e=>np2 (e▸hb))
     have Z3:=R20.ext X21 (fun b hb e=>np3 (e▸hb))
     have hl1:(t1.len:Int)=L.length+1:=by rw [R14.len];simp
     refine ⟨p,rfl,t1,B21.cell0,?_⟩
     rw [hl1]
     refine hK _ _ _ ⟨by rw [hmk],fun b=>b=p.block∨t1.blk b∨t2.blk b∨t3.blk b,?_,?_,?_⟩
     ·rw [hmk]
      exact ⟨t1,t2,t3,⟨B21,by simpa [jRG] using Z1,by simpa [jUB] using Z2,by simpa [jOT] using Z3,np1,np2,np3,d12'',d13'',d23''⟩,fun _=>Iff.rfl⟩
     ·have a1:Ext F w0 w14:=(E11'.trans E13).pure.trans' X14 (fun i _ h=>(hF i).2 (.inr (.inl h)))
      have a2:Ext F w0 w15:=a1.trans' X15 (fun i _ h=>(hF i).2 (.inl h))
      have a3:Ext F w0 w17:=(a2.thenPure E16).trans' X17 (fun i _ h=>(hF i).2 (.inr (.inr (.inl h))))
      have a4:Ext F w0 w18:=a3.trans' X18 (fun i _ h=>(hF i).2 (.inl h))
      have a5:Ext F w0 w20:=(a4.thenPure E19).trans' X20 (fun i _ h=>(hF i).2 (.inr (.inr (.inr h))))
      exact a5.trans' X21 (fun i _ h=>(hF i).2 (.inl h))
     ·have z13:w0.heap.size≤w13.heap.size:=(E11'.trans E13).size
      have z16:w0.heap.size≤w16.heap.size:=by have:=X14.size;have:=X15.size;have:=E16.size;omega
      have z19:w0.heap.size≤w19.heap.size:=by have:=X17.size;have:=X18.size;have:=E19.size;omega
      rintro b (rfl | hb | hb | hb)
      ·exact .inl hpF
      ·exact (nb1 b hb).imp (fun h=>(hF b).2 (.inr (.inl h))) (fun h=>by omega)
      ·exact (nb2 b hb).imp (fun h=>(hF b).2 (.inr (.inr (.inl h)))) (fun h=>by omega)
      ·exact (nb3 b hb).imp (fun h=>(hF b).2 (.inr (.inr (.inr h)))) (fun h=>by omega)
 have J2:∀(x2:Bool) (H:NP) (w:World),Hst w0 H w H w→Pure w0 w→x2=(decide (1≤(Sp.shapeOf k).kids) && !Sp.inP L a)→m_R_j2 (some p) k f t u x a b x2 w0 H w K:=by
  intro x2 H w hs E hx;unfold m_R_j2;rw [hkd];refine ⟨fun h=>J1 true H w hs E (by rw [← hx,h];rfl),fun h=>⟨fun h2=>?_,fun h2=>J1 false H w hs E ?_⟩⟩
  ·refine (uO p b w (hP.pure E)).mono ?_;rintro _ _ ⟨_,rfl,rfl,rfl⟩;refine ⟨_,rfl,Kept.refl _,J1 _ H _ hs E ?_⟩;have h2:(Sp.shapeOf k).kids=2:=by simpa using h2
   rw [← hx,h];simp [h2]
  ·have h2:(Sp.shapeOf k).kids≠2:=by simpa using h2
   rw [← hx,h];simp [h2]
 refine ⟨fun h=>?_,fun h=>?_⟩
 ·intro H1 w3 hs3
  refine (uO p a w3 (hP.pure hs3.first)).mono ?_
  rintro _ _ ⟨_,rfl,rfl,rfl⟩
  refine ⟨_,rfl,Kept.refl _,J2 _ H1 _ hs3.here hs3.first ?_⟩
  have:1≤(Sp.shapeOf k).kids:=by have:=of_decide_eq_true h;omega
  simp [this]
 ·intro H1 w3 hs3
  refine J2 _ H1 _ hs3.here hs3.first ?_
  have:¬ 1≤(Sp.shapeOf k).kids:=by have:=of_decide_eq_false h;omega
  simp [this]
theorem jIP (s:Sp.Shape) (n:Sp.Node):Sp.zU s n≠53:=by
 unfold Sp.zU;split
 ·omega
 ·split <;> omega
theorem jPA (k f t u:Int) (x:ByteArray) (len:Nat):Sp.qM ⟨k,f,t,u,x,0,0⟩ len=(if (Sp.nodeErr ⟨k,f,t,u,x,0,0⟩≠53∧(len:Int)≠(Sp.shapeOf k).kids) then 53 else Sp.nodeErr ⟨k,f,t,u,x,0,0⟩):=by
 unfold Sp.qM Sp.nodeErr;simp only;rcases jCZ ⟨k,f,t,u,x,0,0⟩ with h | h
 ·rw [h];simp
 ·rw [h];have:=jIP (Sp.shapeOf k) ⟨k,f,t,u,x,0,0⟩;by_cases h2:(len:Int)=(Sp.shapeOf k).kids <;> simp [h2,this]
theorem jFJ {S:NP} (q:Addr) (hq:¬ S q.block) (T:TypeId) (t:Sp.Tree):∀(s:Sl) (inside seen:Int) (w0:World),0≤inside→0≤seen→TreeAt S w0 s t→(∀b,S b→b<w0.heap.size)→Box w0 q [.int .i64 seen] T →
  Calls prog 110 #[.agg (uT t s).toArray,.int .i64 inside,.pointer (some q)] w0
   (fun e w'=>∃r:Int,e=.returned (.int .i64 r)∧(r=(Sp.vY inside seen t).1∧Box w' q [.int .i64 (Sp.vY inside seen t).2] T∧Ext (·=q.block) w0 w')):=by
 induction t using Sp.Tree.ind with
 | h k f t u x ks ih =>
 intro s inside seen w0 hi0 hn0 hT hSw hB
 suffices key:∀K:Int→WP,(∀r w',(r=(Sp.vY inside seen (.mk k f t u x ks)).1∧Box w' q [.int .i64 (Sp.vY inside seen (.mk k f t u x ks)).2] T∧Ext (·=q.block) w0 w')→K r w')→m_X k f t u x s inside (some q) w0 K from
  w_X _ _ _ _ _ _ _ _ w0 _ (key _ (fun _ _ h=>h))
 intro K hK
 have hql:=hB.lt
 unfold m_X
 refine ⟨q,rfl,?_⟩
 intro H1 w1 hs1
 have hB1:=hB.pure hs1.first
 refine ⟨seen,hB1.cell0,?_⟩
 intro H5 w13 hs5
 have E13:=hs1.first.hst hs5
 have hB13:=hB.pure E13
 have hq0:∀{H w' H' w''},Hst w0 H w' H' w''→¬ H' q.block:=fun h hh=>by have:=h.old _ hh;omega
 unfold m_X_j1
 refine ⟨fun h=>?_,fun h=>?_⟩
 ·have : Sp.vY inside seen (.mk k f t u x ks) = (52, seen) := by
   rw [Sp.vY];simp only [Bool.or_eq_true,decide_eq_true_eq] at h;by_cases h1:4096≤seen
   ·rw [if_pos h1]
   ·rw [if_neg h1,if_pos (by omega)]
  rw [this] at hK;exact hK _ _ ⟨rfl,hB13,E13.pure⟩
 ·have h1 : ¬ 4096 ≤ seen ∧ ¬ 64 ≤ inside := by
   simp only [Bool.or_eq_false_iff,decide_eq_false_iff_not] at h;omega
  have hsp:Sp.vY inside seen (.mk k f t u x ks)=Sp.vF (inside+1) (Sp.qM ⟨k,f,t,u,x,0,0⟩ ks.length) (seen+1) ks:=by rw [Sp.vY,if_neg h1.1,if_neg h1.2]
  rw [hsp] at hK
  have hlen:s.len=ks.length:=by cases hT;assumption
  have hfit:ks.length≤9223372036854775807:=by cases hT;assumption
  refine ⟨q,rfl,seen,hB13.cell0,q,rfl,hB13.canW0 (by simp),hq0 hs5,?_⟩
  rw [i64 (n:=seen+1) (by omega) (by omega)]
  rintro w2 hw2
  have hB2:Box w2 q [.int .i64 (seen+1)] T:=by rw [hw2];exact hB13.set0
  have E2:Ext (·=q.block) w0 w2:=by rw [hw2];exact E13.pure.trans (Ext.setCell q _)
  clear hw2
  rintro y1 rfl
  have hsh:=jEL ⟨k,f,t,u,x,0,0⟩
  simp only at hsh
  rw [hsh,uK,hlen]
  have hown:cond ((Sp.nodeErr ⟨k,f,t,u,x,0,0⟩ != 53) && ((ks.length:Int) != (Sp.shapeOf k).kids)) 53 (Sp.nodeErr ⟨k,f,t,u,x,0,0⟩)=Sp.qM ⟨k,f,t,u,x,0,0⟩ ks.length:=by
   rw [jPA];by_cases h2:Sp.nodeErr ⟨k,f,t,u,x,0,0⟩=53
   ·simp [h2]
   ·by_cases h3:(ks.length:Int)=(Sp.shapeOf k).kids
    ·simp [h3]
    ·have e1:(Sp.nodeErr ⟨k,f,t,u,x,0,0⟩ != 53)=true:=by simpa using h2
     have e2:((ks.length:Int) != (Sp.shapeOf k).kids)=true:=by simpa using h3
     rw [e1,e2,if_pos ⟨h2,h3⟩];rfl
  rw [hown]
  intro H3 w10 hs3
  have E10:Ext (·=q.block) w0 w10:=E2.hst hs3
  have hB10:=hB2.ext hs3.ext (hq0 hs3)
  refine ⟨fun e i H w'=>∃j:Nat,i=j∧j≤ks.length∧∃n:Int,0≤n∧Ext (·=q.block) w0 w'∧Box w' q [.int .i64 n] T∧Sp.vF (inside+1) e n (ks.drop j)=Sp.vF (inside+1) (Sp.qM ⟨k,f,t,u,x,0,0⟩ ks.length) (seen+1) ks,fun _ i _=>((ks.length:Int) - i).toNat,⟨0,rfl,Nat.zero_le _,seen+1,by omega,E10,hB10,rfl⟩,?_⟩
  rintro e1 _ Hl wl hl ⟨j,rfl,hj,n,hn,El,hBl,heq⟩
  unfold m_X_l2
  have hTl:=hT.ext El (fun b hb e=>hq (e▸hb))
  refine ⟨fun hc=>?_,fun hc=>?_⟩
  ·simp only [Bool.and_eq_true,beq_iff_eq] at hc
   obtain ⟨he,hlt⟩:=hc
   have hlt:=uY hlen hlt
   subst he
   cases hTl with
   | mk _ _ _ _ _ _ _ rs len fit row kid =>
   obtain ⟨a,hat,ha,hr⟩:=row j hlt
   refine ⟨a,hat,?_⟩
   intro H4 w11 hs4
   have E11:=El.hst hs4
   have hT11:=hT.ext E11 (fun b hb e=>hq (e▸hb))
   have hr11:Row w11 a (uT ks[j] (rs j)):=hs4.ext.row hr (fun hh=>by have:=hs4.old _ hh;have:=hSw _ ha;omega)
   have hk11:TreeAt S w11 (rs j) ks[j]:=(kid j hlt).ext hs4.ext (fun b hb hh=>by have:=hs4.old _ hh;have:=hSw _ hb;omega)
   have hB11:=hBl.ext hs4.ext (hq0 hs4)
   refine ⟨_,_,_,_,_,rs j,hr11,?_⟩
   rw [i64 (n:=inside+1) (by omega) (by omega)]
   refine (ih j hlt (rs j) (inside+1) n w11 (by omega) hn hk11 (fun b hb=>by have:=hSw b hb;have:=E11.size;omega) hB11).mono ?_
   rintro _ w12 ⟨r,rfl,rfl,hB12,E12⟩
   refine ⟨_,rfl,E12.kept (fun b hb e=>hq0 hs4 (e▸hb)),?_⟩
   rw [vQ hlt (by omega)]
   refine ⟨⟨j+1,rfl,hlt,_,jFW ks[j] (inside+1) n hn,E11.trans E12,hB12,?_⟩,jES hlt⟩
   rw [← heq];exact (jBW hlt (inside+1) n).symm
  ·intro H4 w11 hs4
   have hfin:Sp.vF (inside+1) e1 n (ks.drop j)=(e1,n):=by
    by_cases he:e1=0
    ·have hge : j = ks.length := by
      rw [he] at hc;have hc:decide ((j:Int)<(s.len:Int))=false:=by simpa using hc
      exact tE hlen hj hc
     rw [hge,List.drop_length];rfl
    ·exact jDD he _ _
   rw [hfin] at heq
   refine hK _ _ ⟨by rw [← heq],?_,El.hst hs4⟩
   rw [← heq];exact hBl.ext hs4.ext (hq0 hs4)
theorem jGW {S:NP} (t:Sp.Tree) (s:Sl) (w0:World) (hT:TreeAt S w0 s t) (hSw:∀b,S b→b<w0.heap.size) :
  Calls prog 57 #[.agg (uT t s).toArray] w0 (fun e w'=>∃r:Int,e=.returned (.int .i64 r)∧(r=(Sp.vY 0 0 t).1∧Pure w0 w')):=by
 obtain ⟨k,f,to,u,x,ks⟩:=t
 refine w_Q3 _ _ _ _ _ _ w0 (fun r w'=>r=(Sp.vY 0 0 (.mk k f to u x ks)).1∧Pure w0 w') ?_
 unfold m_Q3
 intro H1 w1 hs1 p w2 h2
 have b2:=Box.of_new h2
 have E2:Pure w0 w2:=hs1.first.trans (Ext.new h2)
 have o2:=New.own hs1.first h2
 have hpH:¬ H1 p.block:=fun hh=>by have:=hs1.lt _ hh;have:=h2.at_size;omega
 refine ⟨b2.canW0 (by simp),hpH,?_⟩
 rintro w3 hw3
 have b3:Box w3 p [.int .i64 0] 3:=by rw [hw3];exact b2.set0
 have E3:Pure w0 w3:=by rw [hw3];exact E2.own o2 (Ext.setCell p _)
 clear hw3
 refine (jFJ p (fun h=>by have:=hSw _ h;omega) _ _ s 0 0 w3 (Int.le_refl _) (Int.le_refl _) (hT.pure E3) (fun b hb=>by have:=hSw b hb;have:=E3.size;omega) b3).mono ?_
 rintro _ w4 ⟨r,rfl,rfl,_,E4⟩
 exact ⟨_,rfl,E4.kept (fun b hb e=>hpH (e▸hb)),rfl,E3.own o2 E4⟩
theorem jKU (p:Addr) (n:Nat) (w0:World) {L:Sp.Pool} {F:NP} (hP:qR w0 p L F) (hn:n≤L.length) :
  Calls prog 59 #[.pointer (some p),.int .i64 n] w0 (fun e w'=>e=.returned (.tuple #[])∧qR w' p (L.take n) F∧Ext F w0 w'):=by
 suffices key:∀K:WP,(∀w',qR w' p (L.take n) F∧Ext F w0 w'→K w')→m_E2 (some p) n w0 K from
  w_E2 _ _ w0 _ (key _ (fun _ h=>h))
 intro K hK
 unfold m_E2
 obtain ⟨s1,s2,s3,hS,hF⟩:=hP
 obtain ⟨t1,hr1,R1,hb1⟩:=Rws.hi (P:=prog) jLD hS.r1 (k:=.i64) (n:=n) (by omega) (by simpa using hn)
 refine ⟨p,rfl,s1,hS.box.cell0,t1,hr1,p,rfl,hS.box.canW0 (by simp),?_⟩
 rintro w1 hw1
 have B1:Box w1 p [t1.v,s2.v,s3.v] 52:=by rw [hw1];exact hS.box.set0
 have X1:Ext (·=p.block) w0 w1:=by rw [hw1];exact Ext.setCell p _
 clear hw1
 obtain ⟨t2,hr2,R2,hb2⟩:=Rws.hi (P:=prog) jCL (hS.r2.ext X1 (fun b hb e=>hS.n2 (e▸hb))) (k:=.i64) (n:=n) (by omega) (by simpa using hn)
 refine ⟨p,rfl,s2,B1.cell rfl,t2,hr2,p,rfl,B1.canW (by simp),?_⟩
 rintro w2 hw2
 have B2:Box w2 p [t1.v,t2.v,s3.v] 52:=by rw [hw2];exact B1.set 1 _
 have X2:Ext (·=p.block) w1 w2:=by rw [hw2];have:=Ext.setCell (w:=w1) (p.add 1) t2.v;rw [zP] at this;exact this
 clear hw2
 obtain ⟨t3,hr3,R3,hb3⟩:=Rws.hi (P:=prog) jCL (hS.r3.ext (X1.trans X2) (fun b hb e=>hS.n3 (e▸hb))) (k:=.i64) (n:=n) (by omega) (by simpa using hn)
 refine ⟨p,rfl,s3,B2.cell rfl,t3,hr3,p,rfl,B2.canW (by simp),?_⟩
 rintro w3 hw3
 have B3:Box w3 p [t1.v,t2.v,t3.v] 52:=by rw [hw3];exact B2.set 2 _
 have X3:Ext (·=p.block) w2 w3:=by rw [hw3];have:=Ext.setCell (w:=w2) (p.add 2) t3.v;rw [zP] at this;exact this
 clear hw3
 have E:=(X1.trans X2).trans X3
 refine hK _ ⟨⟨t1,t2,t3,⟨B3,?_,?_,?_,fun h=>hS.n1 ((hb1 _).1 h),fun h=>hS.n2 ((hb2 _).1 h),fun h=>hS.n3 ((hb3 _).1 h),fun b h1 h2=>hS.d12 b ((hb1 b).1 h1) ((hb2 b).1 h2),fun b h1 h2=>hS.d13 b ((hb1 b).1 h1) ((hb3 b).1 h2),fun b h1 h2=>hS.d23 b ((hb2 b).1 h1) ((hb3 b).1 h2)⟩,fun b=>by rw [hF b,hb1 b,hb2 b,hb3 b]⟩,E.mono (fun i _ h=>(hF i).2 (.inl h))⟩
 ·have:=R1.ext E (fun b hb e=>hS.n1 ((hb1 _).1 (e▸hb)))
  rw [List.map_take];simpa using this
 ·have:=R2.ext (X2.trans X3) (fun b hb e=>hS.n2 ((hb2 _).1 (e▸hb)))
  rw [List.map_take];simpa using this
 ·have:=R3.ext X3 (fun b hb e=>hS.n3 ((hb3 _).1 (e▸hb)))
  rw [List.map_take];simpa using this
theorem jJC {S:NP} (p:Addr) (t:Sp.Tree):∀(s:Sl) (w0:World) (L:Sp.Pool) (F:NP),Sp.Tree.two t→TreeAt S w0 s t→qR w0 p L F→Sp.Ok L→(∀b,F b→¬ S b)→(∀b,S b→b<w0.heap.size) →
  Calls prog 58 #[.pointer (some p),.agg (uT t s).toArray] w0
   (fun e w'=>∃r1:Int,∃r2:Int,e=.returned (.tuple #[.int .i64 r1,.int .i64 r2])∧((r1,r2)=((Sp.grow L t).1,(Sp.grow L t).2.1)∧∃F',qR w' p (Sp.grow L t).2.2 F'∧Ext F w0 w'∧∀b,F' b→F b∨w0.heap.size≤b)):=by
 induction t using Sp.Tree.ind with
 | h k f t u x ks ih =>
 intro s w0 L F h2 hT hP hok hFS hSw
 suffices key:∀K:Int→Int→WP,(∀r1 r2 w',((r1,r2)=((Sp.grow L (.mk k f t u x ks)).1,(Sp.grow L (.mk k f t u x ks)).2.1)∧∃F',qR w' p (Sp.grow L (.mk k f t u x ks)).2.2 F'∧Ext F w0 w'∧∀b,F' b→F b∨w0.heap.size≤b)→K r1 r2 w')→m_L1 (some p) k f t u x s w0 K from
  w_L1 _ _ _ _ _ _ _ w0 _ (key _ (fun _ _ _ h=>h))
 intro K hK
 obtain ⟨hk2,hall⟩:=jOE.1 h2
 have hsp:Sp.grow L (.mk k f t u x ks)=Sp.zY ⟨k,f,t,u,x,0,0⟩ 0 L ks:=by rw [Sp.grow]
 rw [hsp] at hK
 have hlen:s.len=ks.length:=by cases hT;assumption
 unfold m_L1
 intro H2 w4 hs4
 refine ⟨fun i a1 a2 a3 a4 a5 a6 a7 H w'=>∃j:Nat,i=j∧j≤ks.length∧∃(L':Sp.Pool) (F':NP),Sp.zY ⟨k,f,t,u,x,0,0⟩ 0 L ks=Sp.zY ⟨a1,a2,a3,a4,a5,a6,a7⟩ j L' (ks.drop j)∧Sp.Ok L'∧qR w' p L' F'∧(∀b,F' b→F b∨w0.heap.size≤b)∧(∀b,F' b→¬ H b)∧Ext F w0 w',fun i _ _ _ _ _ _ _ _=>((ks.length:Int) - i).toNat,
  ⟨0,rfl,Nat.zero_le _,L,F,by simp,hok,hP.pure hs4.first,fun b h=>.inl h,hs4.disj0 (fun b hb=>hP.lt hb),hs4.first.pure⟩,?_⟩
 rintro _ a1 a2 a3 a4 a5 a6 a7 Hl wl hl ⟨j,rfl,hj,L',F',heq,hok',hPl,hF',hv,El⟩
 unfold m_L1_l1
 refine ⟨fun h=>?_,fun h=>?_⟩
 ·have hlt:=uY hlen h
  have hTl:TreeAt S wl s (.mk k f t u x ks):=hT.ext El (fun b hs hf=>hFS b hf hs)
  have hkid:∃a r,At s j 6 a∧Row wl a (uT ks[j] r)∧TreeAt S wl r ks[j]:=by
   cases hTl with
   | mk _ _ _ _ _ _ _ rs len fit row kid=>exact let ⟨a,h1,_,h3⟩:=row j hlt;⟨a,rs j,h1,h3,kid j hlt⟩
  obtain ⟨a,r,hat,hrow,hTk⟩:=hkid
  refine ⟨a,hat,_,_,_,_,_,r,hrow,?_⟩
  have hsz:w0.heap.size≤wl.heap.size:=El.size
  refine (ih j hlt r wl L' F' (jFM hall hlt) hTk hPl hok' (fun b hb hs=>(hF' b hb).elim (fun h=>hFS b h hs) (fun h=>by have:=hSw b hs;omega)) (fun b hs=>by have:=hSw b hs;omega)).mono ?_
  rintro _ w8 ⟨r1,r2,rfl,hr,F8,hP8,E8,hF8⟩
  have e1:r1=(Sp.grow L' ks[j]).1:=congrArg Prod.fst hr
  have e2:r2=(Sp.grow L' ks[j]).2.1:=congrArg Prod.snd hr
  rw [List.drop_eq_getElem_cons hlt] at heq
  have hF8':∀b,F8 b→F b∨w0.heap.size≤b:=fun b hb=>(hF8 b hb).elim (hF' b) (fun h=>by right;omega)
  have Ew8:Ext F w0 w8:=El.trans' E8 (fun i hi h=>(hF' i h).elim id (fun h=>by omega))
  refine ⟨_,_,rfl,E8.kept (fun b hH hF=>hv b hF hH),fun h=>?_,fun h=>?_⟩
  ·have h:(Sp.grow L' ks[j]).2.1≠0:=by rw [← e2];simpa using h
   rw [jEX h] at heq
   refine hK _ _ _ ?_
   rw [heq];exact ⟨by rw [e2],F8,hP8,Ew8,hF8'⟩
  ·have h:(Sp.grow L' ks[j]).2.1=0:=by rw [← e2];simpa using h
   rw [jDE h] at heq
   intro H3 w9 hs9
   have hv8:∀b,F8 b→¬ Hl b:=fun b hb hH=>(hF8 b hb).elim (fun h=>hv b h hH) (fun h=>by have:=hl.lt b hH;omega)
   have hv9:∀b,F8 b→¬ H3 b:=hs9.disj (fun b hb=>⟨hP8.lt hb,hv8 b hb⟩)
   rw [vQ hlt (by omega)]
   refine ⟨⟨j+1,rfl,hlt,_,F8,?_,(Sp.tD ks[j] L' hok').1,hP8.ext hs9.ext hv9,hF8',hv9,Ew8.hst hs9⟩,jES hlt⟩
   rw [heq,e1]
   have hj0:(((j:Int)) == 0)=decide (j=0):=by rw [Bool.eq_iff_iff];simp
   rw [hj0]
   by_cases hj0':j=0
   ·subst hj0';rfl
   ·simp [hj0']
 ·have hge:=tE hlen hj h
  rw [hge,List.drop_length,Sp.zY] at heq
  refine (jJE p ⟨a1,a2,a3,a4,a5,a6,a7⟩ wl hPl hok').mono ?_
  rintro _ w9 ⟨r1,r2,rfl,hr,F9,hP9,E9,hF9⟩
  have hsz:w0.heap.size≤wl.heap.size:=El.size
  refine ⟨_,_,rfl,E9.kept (fun b hH hF=>hv b hF hH),hK _ _ _ ?_⟩
  rw [heq]
  exact ⟨hr,F9,hP9,El.trans' E9 (fun i hi h=>(hF' i h).elim id (fun h=>by omega)),fun b hb=>(hF9 b hb).elim (hF' b) (fun h=>by right;omega)⟩
theorem jGS (t:Sp.Tree):∀L,(Sp.grow L t).2.1≠0→(Sp.grow L t).1=0:=by
 induction t using Sp.Tree.ind with
 | h k f t u x ks ih =>
  have hmk:∀L n,(Sp.make L n).2.1≠0→(Sp.make L n).1=0:=by
   intro L n h;unfold Sp.make at h ⊢;simp only at h ⊢;split at h
   ·rename_i h1;rw [if_pos h1]
   ·rename_i h1;rw [if_neg h1];split at h
    ·rename_i hf;exact absurd rfl h
    ·split at h
     ·rename_i h2;simp [h2]
     ·exact absurd rfl h
  have:∀(ks:List Sp.Tree),(∀i (hi:i<ks.length),∀L,(Sp.grow L ks[i]).2.1≠0→(Sp.grow L ks[i]).1=0)→∀n i L,(Sp.zY n i L ks).2.1≠0→(Sp.zY n i L ks).1=0:=by
   intro ks;induction ks with
   | nil=>intro _ n i L h;unfold Sp.zY at h ⊢;exact hmk L n h
   | cons t ts iht =>
    intro hh n i L h
    unfold Sp.zY at h ⊢
    split at h
    ·rename_i h1;rw [if_pos h1]
    ·rename_i h1;rw [if_neg h1];exact iht (fun i hi=>hh (i+1) (by simpa using hi)) _ _ _ h
  intro L h
  unfold Sp.grow at h ⊢
  exact this ks ih _ _ L h
theorem jNK {S:NP} (p:Addr) (t:Sp.Tree) (s:Sl) (w0:World) {L:Sp.Pool} {F:NP} (hT:TreeAt S w0 s t) (hP:qR w0 p L F) (hok:Sp.Ok L) (hFS:∀b,F b→¬ S b) (hSw:∀b,S b→b<w0.heap.size) :
  Calls prog 14 #[.pointer (some p),.agg (uT t s).toArray] w0
   (fun e w'=>∃r1:Int,∃r2:Int,e=.returned (.tuple #[.int .i64 r1,.int .i64 r2])∧((r1,r2)=((Sp.of L t).1,(Sp.of L t).2.1)∧∃F',qR w' p (Sp.of L t).2.2 F'∧Ext F w0 w'∧∀b,F' b→F b∨w0.heap.size≤b)):=by
 obtain ⟨k,f,to,u,x,ks⟩:=t
 suffices key:∀K:Int→Int→WP,(∀r1 r2 w',((r1,r2)=((Sp.of L (.mk k f to u x ks)).1,(Sp.of L (.mk k f to u x ks)).2.1)∧∃F',qR w' p (Sp.of L (.mk k f to u x ks)).2.2 F'∧Ext F w0 w'∧∀b,F' b→F b∨w0.heap.size≤b)→K r1 r2 w')→m_F2 (some p) k f to u x s w0 K from
  w_F2 _ _ _ _ _ _ _ w0 _ (key _ (fun _ _ _ h=>h))
 intro K hK
 unfold m_F2
 intro H1 w1 hs1
 have E1:=hs1.first
 generalize ht:Sp.Tree.mk k f to u x ks=t at *
 have htr:(Value.agg #[.int .i64 k,.int .i64 f,.int .i64 to,.int .u64 u,.string x,s.v])=.agg (uT t s).toArray:=by rw [← ht];rfl
 rw [htr]
 refine (jGW t s w1 (hT.pure E1) (fun b hb=>by have:=hSw b hb;have:=E1.size;omega)).mono ?_
 rintro _ w2 ⟨r1,rfl,rfl,E2⟩
 have E12:=E1.trans E2
 refine ⟨_,rfl,E2.keptP,fun h=>?_,fun h=>?_⟩
 ·have h:(Sp.vY 0 0 t).1≠0:=by simpa using h
  have:Sp.of L t=(0,(Sp.vY 0 0 t).1,L):=by rw [Sp.of,if_pos h]
  refine hK _ _ _ ?_
  rw [this];exact ⟨rfl,F,hP.pure E12,E12.pure,fun _ h=>.inl h⟩
 ·have h:(Sp.vY 0 0 t).1=0:=by simpa using h
  have hP2:=hP.pure E12
  have hv:∀b,F b→¬ H1 b:=hs1.disj0 (fun b hb=>hP.lt hb)
  obtain ⟨s1,s2,s3,hS,hF0⟩:=id hP2
  have hl0:s1.len=L.length:=by rw [hS.r1.len];simp
  refine ⟨p,rfl,s1,hS.box.cell0,?_⟩
  refine (jJC p t s w2 L F (jIF t _ _ h) (hT.pure E12) hP2 hok hFS (fun b hb=>by have:=hSw b hb;have:=E12.size;omega)).mono ?_
  rintro _ w5 ⟨r1,r2,rfl,hr,F5,hP5,E5,hF5⟩
  have e1:r1=(Sp.grow L t).1:=congrArg Prod.fst hr
  have e2:r2=(Sp.grow L t).2.1:=congrArg Prod.snd hr
  have hs4:w0.heap.size≤w2.heap.size:=E12.size
  have E05:Ext F w0 w5:=E12.pure.trans E5
  have hF5':∀b,F5 b→F b∨w0.heap.size≤b:=fun b hb=>(hF5 b hb).elim .inl (fun h=>.inr (by omega))
  have hs2:=hs1.again E2.keptP
  have hv5:∀b,F5 b→¬ H1 b:=fun b hb hH=>(hF5 b hb).elim (fun h=>hv b h hH) (fun h=>by have:=hs2.lt b hH;omega)
  refine ⟨_,_,rfl,E5.kept (fun b hH hF=>hv b hF hH),fun h'=>?_,fun h'=>?_⟩
  ·have h':(Sp.grow L t).2.1≠0:=by rw [← e2];simpa using h'
   obtain ⟨hok5,M,hM⟩:=Sp.tD t L hok
   rw [hl0]
   refine (jKU p L.length w5 hP5 (by rw [hM];simp)).mono ?_
   rintro _ w6 ⟨rfl,hP6,E6⟩
   have:Sp.of L t=(0,(Sp.grow L t).2.1,L):=by rw [Sp.of,if_neg (by simp [h]),if_pos h']
   refine ⟨rfl,E6.kept (fun b hH hF=>hv5 b hF hH),hK _ _ _ ?_⟩
   rw [this]
   rw [hM,List.take_left] at hP6
   exact ⟨by rw [e1,e2,jGS t L h'],F5,hP6,E05.trans' E6 (fun i hi h=>(hF5' i h).elim id (fun h=>by omega)),hF5'⟩
  ·have h':(Sp.grow L t).2.1=0:=by rw [← e2];simpa using h'
   have:Sp.of L t=((Sp.grow L t).1,0,(Sp.grow L t).2.2):=by rw [Sp.of,if_neg (by simp [h]),if_neg (by simp [h'])]
   refine hK _ _ _ ?_
   rw [this]
   exact ⟨by rw [e1,e2,h'],F5,hP5,E05,hF5'⟩
end Go.Proofs
end
section
open Go Go.SE
namespace Go.Proofs
attribute [local irreducible] Calls
theorem TreeAt.hst {S:NP} {w0 w w':World} {H H':NP} {s:Sl} {t:Sp.Tree} (h:TreeAt S w s t) (hs:Hst w0 H w H' w') (hd:∀b,S b→b<w.heap.size∧¬ H b):TreeAt S w' s t :=
 h.ext hs.ext (fun b hb hh=>hs.disj (G:=S) hd b hb hh)
end Go.Proofs
end
section
open Go Go.SE
namespace Go.Proofs
open Tryz
attribute [local irreducible] Calls
theorem uN (p:Addr) (w:World) {L:Sp.Pool} {F:NP} (hP:zO w p L F):Calls prog 22 #[.pointer (some p)] w (fun e w'=>∃r:Int,e=.returned (.int .i64 r)∧(r=L.length∧w'=w)):=by
 refine w_N2 _ w (fun r w'=>r=L.length∧w'=w) ?_;unfold m_N2;obtain ⟨s,m,h,_⟩:=hP;refine Br.f rfl ⟨p,rfl,s,h.box.cell0,?_,rfl⟩;have:=h.rows.len;rw [this];simp
theorem c_kids (p:Addr) (t:Int) (w:World) {L:Sp.Pool} {F:NP} (hP:zO w p L F) (hok:Sp.Ok L):Calls prog 84 #[.pointer (some p),.int .i64 t] w (fun e w'=>∃s:Sl,e=.returned s.v∧(Lst (fun b=>w.heap.size≤b∧b<w'.heap.size) w' 1 s (tmr (Sp.zH (Sp.nodeOf L t)))∧Pure w w')):=by
 refine w_R2 _ _ w (fun s w'=>Lst (fun b=>w.heap.size≤b∧b<w'.heap.size) w' 1 s (tmr (Sp.zH (Sp.nodeOf L t)))∧Pure w w') ?_;unfold m_R2;refine (jJK p t w hP hok).mono ?_;rintro _ w1 ⟨k,f,t',u,x,a,b,r,rfl,⟨hn,_⟩,E1⟩;refine ⟨_,_,_,_,_,_,_,_,rfl,?_⟩;intro p2 w2 h2;have E2:Pure w w2:=E1.trans (Ext.new h2);have o2:=New.own E1 h2;refine bx 7 (Box.of_new h2) rfl rfl (fun w3 b2 E=>?_);have E3:Pure w w3:=E2.own o2 E;refine ⟨k,b2.cell0,?_⟩;refine (jIX k w3).mono ?_;rintro _ w4 ⟨s1,s2,s3,s4,s5,ok,rfl,⟨hs,_⟩,E4⟩;refine ⟨_,_,_,_,_,_,rfl,?_⟩;have b24:=b2.pure E4;intro p3 w5 h5;have E5:Pure w4 w5:=Ext.new h5;have b25:=b24.pure E5;have ne:p2.block≠p3.block:=h5.ne b24.blk;have E05:Pure w w5:=(E3.trans E4).trans E5;have o5:=New.own (E3.trans E4) h5;refine bx 5 (Box.of_new h5) rfl rfl (fun w6 b3 E=>?_);have b26:=b25.ext E ne;have E06:Pure w w6:=E05.own o5 E;refine ⟨a,b26.cell rfl,b,b26.cell rfl,?_⟩;intro p4 w7 h7;have E7:Pure w6 w7:=Ext.new h7;have b4:=Box.of_new h7;have hsh:Sp.shapeOf k=⟨s1,s2,s3,s4,s5⟩:=hs.symm;have hk5:s5=0∨s5=1∨s5=2:=by have:=Sp.yG k;rw [hsh] at this;exact this
 refine ⟨s5,(b3.pure E7).cell rfl,_,jLH p4 s5 w7 hk5,?_,E06.trans E7⟩;have hks:Sp.zH (Sp.nodeOf L t)=[a,b].take s5.toNat:=by rw [← hn];simp [Sp.zH,hsh]
 rw [hks];have z:=h7.at_size;have z6:=E06.size;have zl:=b4.lt;refine ⟨by rcases hk5 with rfl | rfl | rfl <;> rfl,fun i hi=>?_⟩;rw [yX] at hi;have hi2:i<s5.toNat:=by simp at hi;omega
 refine ⟨p4.add (i*1),⟨by omega,by show (i:Int)<(s5.toNat:Int);omega,p4,rfl,rfl⟩,by rw [zP];omega,?_⟩;intro j hj;have hj1:j<1:=by simp only [tmr,List.getElem_map,List.length_cons,List.length_nil] at hj;omega
 have hj0:j=0:=by omega
 subst hj0;rw [xB];have h01:i=0∨i=1:=by omega
 rcases h01 with rfl | rfl
 ·rw [b4.cell (i:=0*1+0) rfl];simp [tmr]
 ·rw [b4.cell (i:=1*1+0) rfl];simp [tmr]
end Go.Proofs
end
section
open Go Go.SE
open Go.IntKind renaming i64 → q6
namespace Go.Proofs
open Tryz
set_option maxRecDepth 100000
set_option maxHeartbeats 4000000
attribute [local irreducible] wpL wpX opE wpE Calls
def m_X4 (p1:Option Addr) (aA:Option Addr) (t1:Int) (w0:World) (K:Int→Int→WP):Prop :=∀p2 w1,New w0 (.cells #[(vp p1)] 29) p2 w1→∀p3 w2,New w1 (.cells #[(vp aA)] 29) p3 w2→∀p4 w3,New w2 (.cells #[(vi 0)] 23) p4 w3→∀p5 w4,New w3 (.cells #[(vi 0)] 33) p5 w4→∃v1,w4.cell? p2=some (vp v1)∧Br (Option.isNone v1) (zQ w4 p4∧¬ None p4.block∧∀w5,w5=w4.setCell p4 (vi 0)→zQ w5 p5∧¬ None p5.block∧∀w6,w6=w5.setCell p5 (vi 0)→∃aB,w6.cell? p4=some (vi aB)∧∃aC,w6.cell? p5=some (vi aC)∧K aB aC w6) (∃v2,w4.cell? p3=some (vp v2)∧Calls prog 115 #[(vp v2),(vi t1)] w4 (fun e w7=>∃r1,e=.returned (vb r1)∧Kept None w4 w7∧Br (!r1) (zQ w7 p4∧¬ None p4.block∧∀w8,w8=w7.setCell p4 (vi 0)→zQ w8 p5∧¬ None p5.block∧∀w9,w9=w8.setCell p5 (vi 51)→∃aD,w9.cell? p4=some (vi aD)∧∃aE,w9.cell? p5=some (vi aE)∧K aD aE w9) (∃v3,w7.cell? p2=some (vp v3)∧∃a1,v3=some a1∧∃v4:Sl,w7.cell? a1=some v4.v∧∀p6 w10,New w7 (.cells #[(vi 0)] 3) p6 w10→zQ w10 p6∧¬ None p6.block∧∀w11,w11=w10.setCell p6 (vi (v4.len:Int))→∀p7 w12,New w11 (.map #[] 0) p7 w12→∀p8 w13,New w12 (.cells #[(.map none)] 233) p8 w13→zQ w13 p8∧¬ None p8.block∧∀w14,w14=w13.setCell p8 (.map (some p7.block))→∃v5,w14.cell? p3=some (vp v5)∧Calls prog 139 #[(vp v5),(vi t1)] w14 (fun e w15=>∃r2:Value,e=.returned r2∧Kept None w14 w15∧∃(f1:FuncId) (cs1:Array Value),r2=.func (.func f1) #[] cs1∧(∀args w,(callFunc f1 args).run prog w=.ok (.enter f1 args) w)∧∃(xs1:List (Int)) (Rd1:WP),jQT prog f1 cs1 (fun (z2:Int)=>#[(vi z2)]) xs1 Rd1 w15∧∃(I1 Ir1:List (Int)→NP→WP),RngI w0 Rd1 I1 (fun _ _ _=>False) Ir1∧I1 [] None w15∧(∀(pre1:List (Int)) (z2:Int) (Y1:NP) (A1:World),I1 pre1 Y1 A1→Hst w0 Y1 A1 Y1 A1→(∃post,xs1=pre1++z2 :: post)→∃v6,A1.cell? p3=some (vp v6)∧Calls prog 61 #[(vp v6),(vi z2)] A1 (fun e w17=>∃aF aG aH aI aJ aK aL r3,e=.returned (.tuple #[(Ae aF aG aH aI aJ aK aL),(vb r3)])∧Kept None A1 w17∧∀p9 w18,New w17 (.cells #[(vi 0),(vi 0),(vi 0),(vu 0),ve,(vi 0),(vi 0)] 103) p9 w18→(∀j,j<7→zQ w18 (p9.add j))∧¬ None p9.block∧∀w19,w19=storeRow w18 p9 (Ac aF aG aH aI aJ aK aL)→∃C1:WP,C1 w19.drew∧∀w20,w20=w19.drew→∃v7:Option Nat,w20.cell? p8=some (.map v7)∧∃v8,w20.cell? (p9.add 5)=some (vi v8)∧∃v9,(Instr.lookup 233 (.map v7) (vi v8) false).run prog w20=.ok (vi v9) w20∧∃v10:Option Nat,(∀w',C1 w'→w'.cell? p8=some (.map v10))∧∃v11,w20.cell? (p9.add 6)=some (vi v11)∧∃v12,(∀w',C1 w'→(Instr.lookup 233 (.map v10) (vi v11) false).run prog w'=.ok (vi v12) w')∧zQ w20 (p9.add 5)∧¬ None (p9.add 5).block∧∀w21,w21=w20.setCell (p9.add 5) (vi v9)→C1 w21∧zQ w21 (p9.add 6)∧¬ None (p9.add 6).block∧∀w22,w22=w21.setCell (p9.add 6) (vi v12)→∃v13,w22.cell? p2=some (vp v13)∧∃aQ aR aS aT aU aV aW,Row w22 p9 (Ac aQ aR aS aT aU aV aW)∧Calls prog 97 #[(vp v13),(.agg #[(vi aQ),(vi aR),(vi aS),(vu aT),(vs aU),(vi aV),(vi aW)])] w22 (fun e w23=>∃r4 r5,e=.returned (.tuple #[(vi r4),(vi r5)])∧Kept None w22 w23∧Br (r5 != 0) (∃v14,w23.cell? p2=some (vp v14)∧∃v15,w23.cell? p6=some (vi v15)∧Calls prog 56 #[(vp v14),(vi v15)] w23 (fun e w24=>e=.returned (.tuple #[])∧Kept None w23 w24∧zQ w24 p4∧¬ None p4.block∧∀w25,w25=w24.setCell p4 (vi 0)→zQ w25 p5∧¬ None p5.block∧∀w26,w26=w25.setCell p5 (vi r5)→Kept Y1 A1 w26∧Ir1 (pre1++[z2]) Y1 w26)) (∃v16:Option Nat,w23.cell? p8=some (.map v16)∧∃w27:World,(Instr.mapUpdate 233 (.map v16) (vi z2) (vi r4)).run prog w23=.ok () w27∧Kept None w23 w27∧Kept Y1 A1 w27∧I1 (pre1++[z2]) Y1 w27))))∧(∀H1 w28,Hst w0 H1 w28 H1 w28→(∀b,None b→H1 b)→Kept None w15 w28→I1 xs1 H1 w28→∃v17:Option Nat,w28.cell? p8=some (.map v17)∧∃v18,(Instr.lookup 233 (.map v17) (vi t1) false).run prog w28=.ok (vi v18) w28∧zQ w28 p4∧¬ H1 p4.block∧∀w29,w29=w28.setCell p4 (vi v18)→zQ w29 p5∧¬ H1 p5.block∧∀w30,w30=w29.setCell p5 (vi 0)→∀w31,Hst w0 H1 w30 H1 w31→∃aM,w31.cell? p4=some (vi aM)∧∃aN,w31.cell? p5=some (vi aN)∧K aM aN w31)∧(∀(pre2:List (Int)) (H2:NP) (w33:World),Hst w0 H2 w33 H2 w33→Ir1 pre2 H2 w33→∃aO,w33.cell? p4=some (vi aO)∧∃aP,w33.cell? p5=some (vi aP)∧K aO aP w33)))))
theorem w_X4 (p1 aA t1 w0 K) (h:m_X4 p1 aA t1 w0 K):
  Calls prog 122 #[(vp p1),(vp aA),(vi t1)] w0 (fun e w'=>∃r6 r7,e=.returned (.tuple #[(vi r6),(vi r7)])∧K r6 r7 w'):=by
 refine cw (args:=[(vp p1),(vp aA),(vi t1)]) func122 ntmps122 ?_
 obtain ⟨hs,hb⟩:=st0 w0
 refine eg (nw2 hs hb h xb fun p2 w1 hs hb h=>nw2 hs hb h xb fun p3 w2 hs hb h=>nw2 hs hb h (zF (zeroValue23 _) rfl) fun p4 w3 hs hb h=>nw2 hs hb h (zF (zeroValue33 _) rfl) fun p5 w4 hs hb h=>ln (zA (eg (ql (isAgg29 _) h fun v1 h=>q2 (vb (Option.isNone v1)) (yM (by kernel_rfl) rfl underlying29) (ln (cbr h ?_ ?_))))))<;>intro h
 refine eg (st2 (sizeOf23 _) hs hb h fun w5 hs hb h=>st2 (sizeOf33 _) hs hb h fun w6 hs hb h=>ln (er (vD ?_)))
 obtain ⟨aB,hv1,h⟩:=h
 obtain ⟨aC,hv2,h⟩:=h
 refine gg2 results122 (RV.cell1 (A:=p4) (by kernel_rfl) (isAgg23 _) hv1) (RV.cell1 (A:=p5) (by kernel_rfl) (isAgg33 _) hv2) ⟨aB,aC,rfl,h⟩
 refine zC (zL (zA (eg (ql (isAgg29 _) h fun v2 h=>q (sc call115 (h.mono fun e w7 ⟨r1,k,hk,h⟩=>have ⟨hs,hb⟩:=hk.hh hs hb;⟨_,k,?_⟩))))))
 refine q (ln (cbr h ?_ ?_))<;>intro h
 refine eg (st2 (sizeOf23 _) hs hb h fun w8 hs hb h=>st2 (sizeOf33 _) hs hb h fun w9 hs hb h=>ln (er (vD ?_)))
 obtain ⟨aD,hv3,h⟩:=h
 obtain ⟨aE,hv4,h⟩:=h
 refine gg2 results122 (RV.cell1 (A:=p4) (by kernel_rfl) (isAgg23 _) hv3) (RV.cell1 (A:=p5) (by kernel_rfl) (isAgg33 _) hv4) ⟨aD,aE,rfl,h⟩
 refine zC (zL (eg (ql (isAgg29 _) h fun v3 h=>qm h fun a1 h=>q (ql (isAgg94 _) h fun v4 h=>q (sn (O:=(.cells #[(vi 0)] 3)) (zF (zeroValue3 _) rfl) ?_)))))
 intro p6 w10 hn17
 have h:=h p6 w10 hn17
 obtain ⟨hs,hb⟩:=hs.nw hb hn17
 refine st2 (sizeOf3 _) hs hb h fun w11 hs hb h=>ln (eg (nw5 (fun p=>.map (some p.block)) hs hb h fun p7 w12 hs hb h=>nw2 hs hb h (zF (zeroValue233 _) rfl) fun p8 w13 hs hb h=>st2 (sizeOf233 _) hs hb h fun w14 hs hb h=>ln (jGE (rg (ql (isAgg29 _) h fun v5 h=>q (sc call139 (h.mono fun e w15 ⟨r2,k,hk,h⟩=>have ⟨hs,hb⟩:=hk.hh hs hb;⟨_,k,?_⟩)))))))
 refine ln ?_
 obtain ⟨f1,cs1,hv5,hf1,h⟩:=h
 obtain ⟨xs1,Rd1,hit,I1,Ir1,hRI,h0,hbody,h⟩:=h
 refine jEE (encs:=(fun (z2:Int)=>#[(vi z2)])) (Eq.trans (b:=r2) (by kernel_rfl) hv5) hf1 hit (fun _=>rfl) (by decide) hs I1 (fun _ _ _=>False) Ir1 hRI h0 ?ha ?hr ?ht
 case ha =>
  intro l z2 w34
  refine rg (q (ln ⟨rfl,?_⟩))
  intro pre1 Y1 A1 hi hY hpost
  have h:=hbody pre1 z2 Y1 A1 hi hY hpost
  obtain ⟨hs,hb⟩:=st0 A1
  refine zM (eg (ql (isAgg29 _) h fun v6 h=>q (sc call61 (h.mono fun e w17 ⟨aF,aG,aH,aI,aJ,aK,aL,r3,k,hk,h⟩=>have ⟨hs,hb⟩:=hk.hh hs hb;⟨_,k,?_⟩))))
  refine qc (nw2 hs hb h (zF (zeroValue103 _) rfl) fun p9 w18 hs hb h=>?_)
  obtain ⟨hp8,hnh,h⟩:=h
  refine ss (xo p9 (Ac aF aG aH aI aJ aK aL) (sizeOf103 _) hp8) ?_
  intro w19 hn7
  have h:=h w19 hn7
  have hk:Kept None w18 w19:=by rw [hn7];exact Kept.storeRow hnh
  obtain ⟨hs,hb⟩:=hk.hh hs hb
  refine q (ln (zA ?_))
  obtain ⟨C1,hC,h⟩:=h
  refine dr2 C1 [9,11] [11] hC h hs hb fun w20 hs hb h=>?_
  have hs:=hs.here
  refine qg 0 ?_
  obtain ⟨v7,hv17,h⟩:=h
  refine sye Kp0 (xl (isAgg233 _) hv17) (qx 1 (vp (some (p9.add 5))) Kp1 (qg 2 ?_))
  obtain ⟨v8,hv16,h⟩:=h
  refine sye Kp2 (xl (isAgg23 _) hv16) (qg 3 ?_)
  obtain ⟨v9,hv15,h⟩:=h
  refine sye (v:=(vi v9)) Kp3 (yN (by kernel_rfl) (by kernel_rfl) hv15) (qg 4 ?_)
  obtain ⟨v10,hv14,h⟩:=h
  refine sy Kp4 (fun _ k=>xl (isAgg233 _) (hv14 _ k)) (qx 5 (vp (some (p9.add 6))) Kp5 (qg 6 ?_))
  obtain ⟨v11,hv13,h⟩:=h
  refine sye Kp6 (xl (isAgg23 _) hv13) (qg 7 ?_)
  obtain ⟨v12,hv12,h⟩:=h
  refine sy (v:=(vi v12)) Kp7 (fun w' hw'=>(yN (by kernel_rfl) (by kernel_rfl) (hv12 w' hw'))) (qx 8 (vp (some (p9.add 5))) Kp8 (lg 9 ?_))
  obtain ⟨hp9,hnh,h⟩:=h
  refine jTY Kp9 (xs (v:=(vi v9)) (sizeOf23 _) hp9) ?_
  intro w21 hn8
  have h:=h w21 hn8
  refine ⟨.inr h.1,?_⟩
  have h:=h.2
  have hk:=Kept.sc hnh hn8
  obtain ⟨hs,hb⟩:=hk.hh hs hb
  refine qx 10 (vp (some (p9.add 6))) (zT (S8 (zD (zD zS)))) (lg 11 ?_)
  obtain ⟨hp10,hnh,h⟩:=h
  refine jTY (zT (S8 (zD (zD (zD zS))))) (xs (v:=(vi v12)) (sizeOf23 _) hp10) ?_
  intro w22 hn9
  have h:=h w22 hn9
  refine ⟨.inl (by kernel_rfl),?_⟩
  have hk:=Kept.sc hnh hn9
  obtain ⟨hs,hb⟩:=hk.hh hs hb
  refine wn (zL (eg (ql (isAgg29 _) h fun v13 h=>?_)))
  obtain ⟨aQ,aR,aS,aT,aU,aV,aW,hv10,h⟩:=h
  refine qa (isAgg103 _) (sizeOf103 _) hv10 (sc call97 (h.mono fun e w23 ⟨r4,r5,k,hk,h⟩=>have ⟨hs,hb⟩:=hk.hh hs hb;⟨_,k,?_⟩))
  refine q (qd (ln (zA (eg (qb (ln (cbr h ?_ ?_)))))))<;>intro h
  refine eg (ql (isAgg29 _) h fun v14 h=>ql (isAgg3 _) h fun v15 h=>sc call56 (h.mono fun e w24 ⟨k,hk,h⟩=>have ⟨hs,hb⟩:=hk.hh hs hb;⟨_,k,?_⟩))
  refine ln (eg (q (st2 (sizeOf23 _) hs hb h fun w25 hs hb h=>st2 (sizeOf33 _) hs hb h fun w26 hs hb h=>ln (er (vD (yI ?_))))))
  exact rd_r h
  refine zC (zL (rg (ql (isAgg233 _) h fun v16 h=>qb ?_)))
  obtain ⟨w27,hv8,hk,h⟩:=h
  refine qX (zJ rfl) (tM (by kernel_rfl) (by kernel_rfl) (by kernel_rfl) hv8) ?_
  obtain ⟨hs,hb⟩:=hk.hh hs hb
  refine zB (tW ?_)
  exact rd_n h
 case hr =>
  intro D1 H1 w28 hs' hD hDe aX hk1 hio1
  have hb':=hb.behind hk1 aX hD hDe
  have hs:=hs'
  have hb:=hb'
  have h:=h.1 H1 w28 hs aX hk1 (hio1.elim id (fun h=>h.elim (fun _ h=>h.elim)))
  refine eg (ql (isAgg233 _) h fun v17 h=>q ?_)
  obtain ⟨v18,hv21,h⟩:=h
  refine q2 (vi v18) (yN (by kernel_rfl) (by kernel_rfl) hv21) (st2 (sizeOf23 _) hs hb h fun w29 hs hb h=>st2 (sizeOf33 _) hs hb h fun w30 hs hb h=>ln (er (af_r hb.dead ?_)))
  intro w31 hw'
  have hl:=hb.leave hs hw'
  obtain ⟨hs,hb⟩:=hl
  -- behind the loop
  have ⟨h,hs⟩:=hs.hr (h w31)
  obtain ⟨aM,hv19,h⟩:=h
  obtain ⟨aN,hv20,h⟩:=h
  refine gg2 results122 (RV.cell1 (A:=p4) (by kernel_rfl) (isAgg23 _) hv19) (RV.cell1 (A:=p5) (by kernel_rfl) (isAgg33 _) hv20) ⟨aM,aN,rfl,h⟩
 case ht =>
  intro D1 pre2 H2 w32 hs' hD hDe hio
  have hs2:=hs'.putD (o:=.deferred none) hD
  have hio:=hRI.r _ _ _ _ _ hio hs2
  have hs2:=hs2.here
  have hs:=hs2
  generalize World.putObj w32 D1 (.deferred none)=w33 at hs hio ⊢
  have hb:=HB.nil H2 w33
  have h:=h.2 pre2 H2 w33 hs hio
  obtain ⟨aO,hv23,h⟩:=h
  obtain ⟨aP,hv24,h⟩:=h
  refine gg2 results122 (RV.cell1 (A:=p4) (by kernel_rfl) (isAgg23 _) hv23) (RV.cell1 (A:=p5) (by kernel_rfl) (isAgg33 _) hv24) ⟨aO,aP,rfl,h⟩
def m_T1_l1 (yield1:Value) (r1:Sl) (x1:Int) (wl1:World) (Kc1:Int→WP) (K:WP):Prop :=Br (decide (x1<(r1.len:Int))) (∃a1:Addr,At r1 x1 1 a1∧∃v3,wl1.cell? a1=some (vi v3)∧∃(ly1:Nat),yield1=.func (.yield ly1) #[] #[]∧Yld prog ly1 #[(vi v3)] wl1 (fun e w2=>∃b1,e=.returned (vb b1)∧Br (!b1) (K w2) (Kc1 (q6.wrap (x1+1)) w2))) (K wl1)
def m_T1 (yield1:Value) (cap1 cap2:Addr) (w0:World) (K:WP):Prop :=∃v1,w0.cell? cap1=some (vp v1)∧∃v2,w0.cell? cap2=some (vi v2)∧Calls prog 199 #[(vp v1),(vi v2)] w0 (fun e w1=>∃r1:Sl,e=.returned r1.v∧∃(I1:Int→WP) (mu1:Int→World→Nat),I1 0 w1∧∀(x1:Int) (wl1:World),I1 x1 wl1→m_T1_l1 yield1 r1 x1 wl1 (fun y'0 w'=>I1 y'0 w'∧mu1 y'0 w'<mu1 x1 wl1) K)
theorem w_T1 (yield1 cap1 cap2 w0 K) (h:m_T1 yield1 cap1 cap2 w0 K):
  Calls prog 198 #[yield1,(vp (some cap1)),(vp (some cap2))] w0 (fun e w'=>e=.returned (.tuple #[])∧K  w'):=by
 refine cw (args:=[yield1,(vp (some cap1)),(vp (some cap2))]) func198 ntmps198 (eg ?_)
 refine ql (isAgg29 _) h fun v1 h=>ql (isAgg23 _) h fun v2 h=>sc call199 (h.mono fun e w1 ⟨r1,k,h⟩=>⟨_,k,?_⟩)
 refine qb (ln (zM ?_))
 obtain ⟨I1,mu1,h0,hr⟩:=h
 refine qA (σ:=Int×World) (fun s ρ w=>w=s.2∧Has ρ [(0,yield1),(8,r1.v),(9,(vi (r1.len:Int))),(10,(vi s.1))]∧I1 s.1 s.2) (fun s=>mu1 s.1 s.2) (0,w1) ⟨rfl,hm,h0⟩ ?_
 rintro ⟨x1,wl1⟩ ρ w ⟨hw,hH,hI⟩
 dsimp only at hw hH;subst w
 have h:=hr x1 wl1 hI
 refine zR hH (eg (q (ln (zA (cbr h ?_ ?_)))))<;>intro h
 refine zC (zL (zA (zM (eg (qi (runUnderlying137 _) (sizeOf23 _) h fun a1 h=>ql (isAgg23 _) h fun v3 h=>q (ln (eg (qb ?_))))))))
 obtain ⟨ly1,hy1,h⟩:=h
 refine jQY (zJ rfl) (by kernel_rfl) hy1 (by kernel_rfl) (h.mono ?_)
 rintro e w2 ⟨b1,rfl,h⟩
 refine ⟨_,rfl,?_⟩
 refine q (ln (cbr h ?_ ?_))<;>intro h
 refine er (yI (vD (vD (yI (jFP (.inl rfl) results198 ⟨rfl,h⟩)))))
 refine zC (tW (zL (rg (qb (ln ⟨((q6.wrap (x1+1)),w2),⟨rfl,hm,h.1⟩,h.2⟩)))))
 refine vW (xV (xV (xR (jFP (.inr rfl) results198 ⟨rfl,h⟩))))
end Go.Proofs
end
section
open Go Go.SE
namespace Go.SE
theorem Rws.kept {w w':World} {X:NP} {e:TypeId} {sz:Nat} {s:Sl} {rs:List (List Value)} (h:Rws w e sz s rs) (hk:Kept X w w') (hX:∀b,s.blk b→X b):Rws w' e sz s rs:=by
 refine ⟨h.each,h.len,?_⟩;rcases h.own with h' | ⟨g,cur,ha,hg,r⟩
 ·exact .inl h'
 ·exact .inr ⟨g,cur,ha,by rw [hk.keep g (uZ hg) (hX g ⟨_,ha,rfl⟩)];exact hg,r⟩
end Go.SE
namespace Go.Sp
theorem jMU {L:Pool} (hW:Wf L) {t:Int} (ht:inP L t=true) (n:Nat) (st:(Int→Bool)×List Int):(zH (nodeOf L t)).foldl (fun st k=>qV L n k st) st=qV L n (nodeOf L t).b (qV L n (nodeOf L t).a st):=by
 have z:∀st,qV L n 0 st=st:=fun st=>by
  cases n with
  | zero=>rfl
  | succ n=>rw [qV,if_neg (by simp [inP])]
 have h1:=(hW.node ht).2.1;have h2:=(hW.node ht).2.2.1;unfold zH;rcases yG (nodeOf L t).kind with e | e | e
 ·rw [e,h1 (by omega),h2 (by omega),z,z];rfl
 ·rw [e,h2 (by omega),z];rfl
 ·rw [e];rfl
end Go.Sp
namespace Go.Proofs
open Tryz
attribute [local irreducible] Calls
def jTW (M:List Int):List (Int×Unit):=M.map fun t=>(t,())
theorem jQW (M:List Int):(jTW M).map Prod.fst=M:=by simp [jTW,Function.comp_def]
def one1 (_:Unit):Value:=.int .i64 1
structure WkAt (w:World) (p c1 c2 c3 c4:Addr) (m:Nat) (so:Sl) (L:Sp.Pool) (FP:NP) (st:(Int→Bool)×List Int):Prop where
 b1:Box w c1 [.map (some m)] 205
 b2:Box w c2 [.pointer (some p)] 29
 b3:Box w c3 [.func (.func 231) #[] #[.pointer (some c1),.pointer (some c2),.pointer (some c3),.pointer (some c4)]] 267
 b4:Box w c4 [so.v] 137
 mp:∃M,IMap one1 w m (jTW M)∧∀x,st.1 x=decide (x∈M)
 out:Rws w 23 1 so (tmr st.2)
 pool:zO w p L FP
 n4:c4.block≠c1.block∧c4.block≠c2.block∧c4.block≠c3.block∧c4.block≠m
 nm:m≠c1.block∧m≠c2.block∧m≠c3.block
 ns:∀b,so.blk b→b≠c1.block∧b≠c2.block∧b≠c3.block∧b≠c4.block∧b≠m
 nf:∀b,FP b→b≠c4.block∧b≠m∧¬ so.blk b
def WkF (c4:Addr) (m:Nat) (so:Sl) (b:Nat):Prop:=b=c4.block∨b=m∨so.blk b
section
variable {w w':World} {p c1 c2 c3 c4:Addr} {m:Nat} {so:Sl} {L:Sp.Pool} {FP:NP} {st:(Int→Bool)×List Int}
theorem WkAt.pure (h:WkAt w p c1 c2 c3 c4 m so L FP st) (E:Pure w w'):WkAt w' p c1 c2 c3 c4 m so L FP st :=
 ⟨h.b1.pure E,h.b2.pure E,h.b3.pure E,h.b4.pure E,let ⟨M,h1,h2⟩:=h.mp;⟨M,h1.pure E,h2⟩,h.out.pure E,h.pool.pure E,h.n4,h.nm,h.ns,h.nf⟩
end
theorem c_walk (p c1 c2 c3 c4:Addr) (m:Nat) {L:Sp.Pool} {FP:NP} (hW:Sp.Wf L):∀(n:Nat) (t:Int) (w0:World) (st:(Int→Bool)×List Int) (so:Sl),t.toNat<n→Sp.inP L t=true→WkAt w0 p c1 c2 c3 c4 m so L FP st→Sp.OvOk L st→(∀y,st.1 y=true→y≤t→y∈st.2) →
  Calls prog 231 #[.int .i64 t,.pointer (some c1),.pointer (some c2),.pointer (some c3),.pointer (some c4)] w0 (fun e w'=>e=.returned (.tuple #[])∧∃so',WkAt w' p c1 c2 c3 c4 m so' L FP (Sp.qV L n t st)∧Ext (WkF c4 m so) w0 w'∧∀b,so'.blk b→so.blk b∨w0.heap.size≤b):=by
 intro n
 induction n with
 | zero=>intro t w0 st so h;omega
 | succ n ih =>
 intro t w0 st so hn hin h hst hm
 have hR:=Sp.xP hW (n+1) t st hn hst hm
 suffices key:∀K:WP,(∀so' w',WkAt w' p c1 c2 c3 c4 m so' L FP (Sp.qV L (n+1) t st)→Ext (WkF c4 m so) w0 w'→(∀b,so'.blk b→so.blk b∨w0.heap.size≤b)→K w')→m_J1 t c1 c2 c3 c4 w0 K from
  w_J1 _ _ _ _ _ w0 _ (key _ (fun so' w' a b c=>⟨so',a,b,c⟩))
 intro K hK
 unfold m_J1
 obtain ⟨M,hM,hV⟩:=h.mp
 have hz:∀w,(zeroValue 3).run prog w=.ok (.int .i64 0) w:=fun w=>zeroValue3 w
 rcases hM.get underlying205 underlying23 (hz w0) t false with ⟨hno,hl⟩ | ⟨u,hyes,hl⟩
 ·have hnot:t ∉ M:=by have:=tB.1 hno;rwa [jQW] at this
  have hv:st.1 t=false:=by rw [hV];simpa using hnot
  rw [Sp.qV,if_pos ⟨hin,hv⟩] at hK hR
  refine ⟨some m,h.b1.cell0,0,hl,Br.f (by simp) ?_⟩
  obtain ⟨w1,hu,hM1,E1⟩:=hM.put (f:=one1) underlying205 underlying23 hno ()
  refine ⟨some m,h.b1.cell0,0,hl,w1,by rw [i64 (by omega) (by omega)];exact hu,?_⟩
  have A1:WkAt w1 p c1 c2 c3 c4 m so L FP (Sp.upd st.1 t true,st.2) :=
   ⟨h.b1.ext E1 (fun e=>h.nm.1 e.symm),h.b2.ext E1 (fun e=>h.nm.2.1 e.symm),h.b3.ext E1 (fun e=>h.nm.2.2 e.symm),h.b4.ext E1 h.n4.2.2.2,
   ⟨M ++ [t], by rw [show jTW (M ++ [t]) = jTW M ++ [(t, ())] by simp [jTW]]; exact hM1, fun x => by
     simp only [Sp.upd,List.mem_append,List.mem_singleton];by_cases e:x=t
     ·simp [e]
     ·rw [if_neg e,hV];simp [e]⟩,
   h.out.ext E1 (fun b hb=>(h.ns b hb).2.2.2.2),h.pool.ext E1 (fun b hb=>(h.nf b hb).2.1),h.n4,h.nm,h.ns,h.nf⟩
  refine ⟨some p,A1.b2.cell0,?_⟩
  refine (c_kids p t w1 A1.pool hW.ok).mono ?_
  rintro _ w2 ⟨r1,rfl,hks,E2⟩
  refine ⟨_,rfl,?_⟩
  have A2:=A1.pure E2
  have o1:Sp.OvOk L (Sp.upd st.1 t true,st.2):=⟨fun y hy=>by simp only [Sp.upd];split <;> simp [hst.marked y hy],hst.closed,hst.nd,hst.inp⟩
  have hkid:=(hW.node hin).2.2.2.2.1
  have hlen:(Sp.zH (Sp.nodeOf L t)).length≤2:=by rw [Sp.zH];simp;omega
  generalize hks0:Sp.zH (Sp.nodeOf L t)=ks at *
  let sj:Nat→(Int→Bool)×List Int:=fun j=>(ks.take j).foldl (fun st k=>Sp.qV L n k st) (Sp.upd st.1 t true,st.2)
  have good:∀j,j≤ks.length→Sp.OvOk L (sj j)∧∀y,(sj j).1 y=true→y<t→y∈(sj j).2:=by
   intro j;induction j with
   | zero =>
    intro _
    refine ⟨o1,fun y hy hlt=>?_⟩
    simp only [sj,List.take_zero,List.foldl_nil,Sp.upd] at hy ⊢
    rw [if_neg (by omega)] at hy
    exact hm y hy (by omega)
   | succ j ihj =>
    intro hj
    obtain ⟨g1,g2⟩:=ihj (by omega)
    have hk:=hkid ks[j] (List.getElem_mem _)
    have hk1:=(Sp.vA.1 hk.1).1
    have e:sj (j+1)=Sp.qV L n ks[j] (sj j):=by simp only [sj];rw [List.take_succ_eq_append_getElem (by omega),List.foldl_append];rfl
    have r:=Sp.xP hW n ks[j] (sj j) (by omega) g1 (fun y hy hle=>g2 y hy (by omega))
    rw [e]
    refine ⟨r.toOvOk,fun y hy hlt=>?_⟩
    rcases r.back y hy with h1 | h1
    ·obtain ⟨M',e',_⟩:=r.app
     rw [e'];exact List.mem_append_left _ (g2 y h1 hlt)
    ·exact h1
  refine ⟨fun x A=>∃(j:Nat) (so':Sl),x=j∧j≤ks.length∧WkAt A p c1 c2 c3 c4 m so' L FP (sj j)∧Ext (WkF c4 m so) w2 A∧∀b,so'.blk b→so.blk b∨w2.heap.size≤b,fun x _=>((ks.length:Int) - x).toNat,⟨0,so,rfl,Nat.zero_le _,A2,Ext.refl _,fun b hb=>.inl hb⟩,?_⟩
  rintro _ w3 ⟨j,so3,rfl,hj,A3,X3,f3⟩
  unfold m_J1_l1
  have hlen1:r1.len=ks.length:=by rw [hks.len,yX]
  have hks3:Lst (fun b=>w1.heap.size≤b∧b<w2.heap.size) w3 1 r1 (tmr ks):=hks.ext X3 (fun b hb hx=>by
   rcases hx with hx | hx | hx
   ·have:=A1.b4.lt;omega
   ·have:m<w1.heap.size:=hM1.lt;omega
   ·have:=A1.out.lt hx;omega)
  obtain ⟨g1,g2⟩:=good j hj
  refine ⟨fun hc=>?_,fun hc=>?_⟩
  ·have hc:j<ks.length:=by have:=of_decide_eq_true hc;omega
   obtain ⟨a,hat,_,hv⟩:=jBJ hks3 hc
   refine ⟨a,hat,_,hv,_,A3.b3.cell0,_,_,_,rfl,call231,?_⟩
   have hk:=hkid ks[j] (List.getElem_mem _)
   have hk1:=(Sp.vA.1 hk.1).1
   refine (ih ks[j] w3 (sj j) so3 (by omega) hk.1 A3 g1 (fun y hy hle=>g2 y hy (by omega))).mono ?_
   rintro _ w4 ⟨rfl,so4,A4,X4,f4⟩
   refine ⟨rfl,⟨j+1,so4,vQ hc (by omega),hc,?_,X3.trans' X4 (fun i hi hb=>?_),fun b hb=>?_⟩,?_⟩
   ·have e:sj (j+1)=Sp.qV L n ks[j] (sj j):=by simp only [sj];rw [List.take_succ_eq_append_getElem (by omega),List.foldl_append];rfl
    rw [e];exact A4
   ·rcases hb with hb | hb | hb
    ·exact .inl hb
    ·exact .inr (.inl hb)
    ·exact .inr (.inr ((f3 i hb).elim id (fun h=>by omega)))
   ·rcases f4 b hb with h1 | h1
    ·exact f3 b h1
    ·have:=X3.size;right;omega
   ·rw [vQ hc (by omega)]
    show ((ks.length:Int) - ((j+1:Nat):Int)).toNat<((ks.length:Int) - (j:Int)).toNat
    omega
  ·have hc:j=ks.length:=by have:=of_decide_eq_false hc;omega
   subst hc
   have es:sj ks.length=Sp.qV L n (Sp.nodeOf L t).b (Sp.qV L n (Sp.nodeOf L t).a (Sp.upd st.1 t true,st.2)):=by
    rw [← Sp.jMU hW hin,hks0];simp only [sj,List.take_length]
   simp only at hK hR
   rw [← es] at hK hR
   generalize sj ks.length=s3 at *
   refine ⟨so3,A3.b4.cell0,?_⟩
   intro p1 w4 h4
   have E4:Pure w3 w4:=Ext.new h4
   have hfew:s3.2.length≤65536:=by have:=Sp.jBS g1.nd g1.inp;have:=hW.ok.few;omega
   obtain ⟨s1',w5,hr5,R5,X5,f5⟩:=(A3.out.pure E4).append (P:=prog) (ty:=137) (c:=1) jSV (r:=[.int .i64 t]) (Box.of_new h4).row rfl rfl (by rw [yX];omega) (by rw [yX];simp [maxLen];omega)
   have b5:=(A3.b4.pure E4).ext X5 (fun hb=>(A3.ns _ hb).2.2.2.1 rfl)
   refine ⟨s1',w5,hr5,b5.canW0 (by simp),?_⟩
   intro w6 h6
   have E6:Ext (·=c4.block) w5 w6:=by rw [h6];exact Ext.setCell c4 _
   have b6:Box w6 c4 [s1'.v] 137:=by rw [h6];exact b5.set0
   have z1:=E1.size
   have z2:=E2.size
   have z3:=X3.size
   have z4:=E4.size
   have f5':∀b,s1'.blk b→so3.blk b∨w3.heap.size≤b:=fun b hb=>(f5 b hb).imp_right (fun h=>by omega)
   have ns':∀b,s1'.blk b→b≠c1.block∧b≠c2.block∧b≠c3.block∧b≠c4.block∧b≠m:=fun b hb=>(f5' b hb).elim (A3.ns b) (fun hh=>by
    have q1:=A3.b1.lt;have q2:=A3.b2.lt;have q3:=A3.b3.lt;have q4:=A3.b4.lt;have q5:m<w3.heap.size:=by obtain ⟨M',hM',_⟩:=A3.mp;exact hM'.lt
    exact ⟨by omega,by omega,by omega,by omega,by omega⟩)
   have up:∀{T:TypeId} {c:Addr} {vs:List Value},Box w3 c vs T→¬ so3.blk c.block→c.block≠c4.block→Box w6 c vs T:=fun h h1 h2=>((h.pure E4).ext X5 h1).ext E6 h2
   refine hK s1' w6 ⟨up A3.b1 (fun hb=>(A3.ns _ hb).1 rfl) A3.n4.1.symm,up A3.b2 (fun hb=>(A3.ns _ hb).2.1 rfl) A3.n4.2.1.symm,up A3.b3 (fun hb=>(A3.ns _ hb).2.2.1 rfl) A3.n4.2.2.1.symm,b6,?_,?_,((A3.pool.pure E4).ext X5 (fun b hb=>(A3.nf b hb).2.2)).ext E6 (fun b hb e=>(A3.nf b hb).1 e),A3.n4,A3.nm,ns',fun b hb=>⟨(A3.nf b hb).1,(A3.nf b hb).2.1,fun hh=>(f5' b hh).elim (A3.nf b hb).2.2 (fun hh=>by have:=A3.pool.lt hb;omega)⟩⟩ ?_ ?_
   ·obtain ⟨M',hM',hV'⟩:=A3.mp
    exact ⟨M',((hM'.pure E4).ext X5 (fun hb=>(A3.ns _ hb).2.2.2.2 rfl)).ext E6 A3.n4.2.2.2.symm,hV'⟩
   ·show Rws _ _ _ _ (tmr (s3.2++[t]))
    rw [show tmr (s3.2++[t])=tmr s3.2++[[.int .i64 t]] by simp [tmr]]
    exact R5.ext E6 (fun b hb e=>(ns' b hb).2.2.2.1 e)
   ·have f33:∀b,so3.blk b→b<w0.heap.size→so.blk b:=fun b hb hlt=>(f3 b hb).elim id (fun h2=>by omega)
    refine (((E1.mono (fun b _ hb=>.inr (.inl hb))).thenPure E2).trans X3).trans' ((E4.pure (F:=WkF c4 m so3)).trans ((X5.mono (fun b _ hb=>.inr (.inr hb))).trans (E6.mono (fun b _ e=>.inl e)))) (fun i hi hb=>?_)
    rcases hb with hb | hb | hb
    ·exact .inl hb
    ·exact .inr (.inl hb)
    ·exact .inr (.inr (f33 i hb hi))
   ·intro b hb
    rcases f5' b hb with h1 | h1
    ·exact (f3 b h1).imp_right (fun h=>by omega)
    ·right;omega
 ·have hyes':t∈M:=by have:=jBX hyes;simp [jTW] at this;exact this
  have hv:st.1 t=true:=by rw [hV];simpa using hyes'
  rw [Sp.qV,if_neg (by simp [hv])] at hK
  refine ⟨some m,h.b1.cell0,1,hl,Br.t (by simp) ?_⟩
  exact hK so w0 h (Ext.refl _) (fun b hb=>.inl hb)
theorem c_subs (p:Addr) (t:Int) (w0:World) {L:Sp.Pool} {FP:NP} (hW:Sp.Wf L) (hP:zO w0 p L FP) :
  Calls prog 199 #[.pointer (some p),.int .i64 t] w0 (fun e w'=>∃r:Sl,e=.returned r.v∧RetO w0 23 1 (tmr (Sp.subs L t)) r w'):=by
 refine w_Y2 _ _ w0 (fun r w'=>RetO w0 23 1 (tmr (Sp.subs L t)) r w') ?_
 unfold m_Y2
 intro p2 w1 h1 p3 w2 h2 p4 w3 h3 p5 w4 h4
 have B2:=Box.of_new h1
 have B3:=Box.of_new h2
 have M4:=IMap.of_new (f:=one1) h3
 have B5:=Box.of_new h4
 have E1:Pure w0 w1:=Ext.new h1
 have E2:Pure w1 w2:=Ext.new h2
 have E3:Pure w2 w3:=Ext.new h3
 have E4:Pure w3 w4:=Ext.new h4
 have s1:=h1.at_size;have s2:=h2.at_size;have s3:=h3.at_size;have s4:=h4.at_size
 have z1:=E1.size;have z2:=E2.size;have z3:=E3.size;have z4:=E4.size
 have l1:=B2.lt;have l2:=B3.lt;have l3:=M4.lt;have l4:=B5.lt
 refine ⟨B5.canW0 (by simp),fun w5 h5=>?_⟩
 have E5:Ext (·=p5.block) w4 w5:=by rw [h5];exact Ext.setCell p5 _
 have B5':Box w5 p5 [.map (some p4.block)] 205:=by rw [h5];exact B5.set0
 intro p6 w6 h6
 have B6:=Box.of_new h6
 have E6:Pure w5 w6:=Ext.new h6
 have s6:=h6.at_size;have z5:=E5.size;have z6:=E6.size;have l6:=B6.lt
 refine ⟨B6.canW0 (by simp),fun w7 h7=>?_⟩
 have E7:Ext (·=p6.block) w6 w7:=by rw [h7];exact Ext.setCell p6 _
 have B6':Box w7 p6 [.func (.func 231) #[] #[.pointer (some p5),.pointer (some p2),.pointer (some p6),.pointer (some p3)]] 267:=by rw [h7];exact B6.set0
 have z7:=E7.size
 have EE:Pure w0 w7:=((((((E1.trans E2).trans E3).trans E4).own (by omega) E5).trans E6).own (by omega) E7)
 have up:∀{T:TypeId} {c:Addr} {vs:List Value},Box w4 c vs T→c.block≠p5.block→c.block≠p6.block→Box w7 c vs T:=fun h h1 h2=>((h.ext E5 h1).pure E6).ext E7 h2
 have hnil:∀b,¬ Sl.nil.blk b:=fun b hb=>by obtain ⟨a,h,_⟩:=hb;cases h
 have A:WkAt w7 p p5 p2 p6 p3 p4.block Sl.nil L FP (fun _=>false,[]) :=
  ⟨(B5'.pure E6).ext E7 (by omega),up (((B2.pure E2).pure E3).pure E4) (by omega) (by omega),B6',up ((B3.pure E3).pure E4) (by omega) (by omega),
  ⟨[],(((M4.pure E4).ext E5 (by omega)).pure E6).ext E7 (by omega),fun x=>by simp⟩,Rws.nil _ _ _,hP.pure EE,⟨by omega,by omega,by omega,by omega⟩,⟨by omega,by omega,by omega⟩,fun b hb=>(hnil b hb).elim,fun b hb=>by
   have:=hP.lt hb;exact ⟨by omega,by omega,hnil b⟩⟩
 refine ⟨some p,A.b2.cell0,?_⟩
 refine (c_in p t w7 A.pool).mono ?_
 rintro _ _ ⟨r1,rfl,rfl,rfl⟩
 refine ⟨_,rfl,fun hc=>?_,fun hc=>?_⟩
 ·refine ⟨_,A.b3.cell0,_,_,_,rfl,call231,?_⟩
  refine (c_walk p p5 p2 p6 p3 p4.block hW (t.toNat+1) t w7 _ Sl.nil (by omega) hc A ⟨by simp,by simp,by simp,by simp⟩ (by simp)).mono ?_
  rintro _ w8 ⟨rfl,so,A8,X8,f8⟩
  refine ⟨rfl,so,A8.b4.cell0,A8.out,fun b hb=>?_,EE.trans' X8 (fun i hi hb=>?_)⟩
  ·rcases f8 b hb with h | h
   ·exact (hnil b h).elim
   ·omega
  ·rcases hb with hb | hb | hb
   ·omega
   ·omega
   ·exact hnil _ hb
 ·have : Sp.subs L t = [] := by
   unfold Sp.subs;rw [Sp.qV,if_neg (by simp [hc])]
  rw [this]
  exact ⟨Sl.nil,A.b4.cell0,Rws.nil _ _ _,fun b hb=>(hnil b hb).elim,EE⟩
theorem jQM (p:Addr) (t:Int) (w0:World):Calls prog 139 #[.pointer (some p),.int .i64 t] w0 (fun e w'=>∃r:Value,e=.returned r∧∃p2 p3:Addr,r=.func (.func 198) #[] #[.pointer (some p2),.pointer (some p3)]∧Box w' p2 [.pointer (some p)] 29∧Box w' p3 [.int .i64 t] 23∧Pure w0 w'):=by
 refine w_U2 _ _ w0 (fun r w'=>∃p2 p3:Addr,r=.func (.func 198) #[] #[.pointer (some p2),.pointer (some p3)]∧Box w' p2 [.pointer (some p)] 29∧Box w' p3 [.int .i64 t] 23∧Pure w0 w') ?_;unfold m_U2;intro p2 w1 h1 p3 w2 h2;exact ⟨p2,p3,rfl,(Box.of_new h1).pure (Ext.new h2),Box.of_new h2,(show Pure w0 w1 from Ext.new h1).trans (Ext.new h2)⟩
theorem jKM {p p2 p3:Addr} {t:Int} {w0:World} {L:Sp.Pool} {FP:NP} (hW:Sp.Wf L) (hP:zO w0 p L FP) (B2:Box w0 p2 [.pointer (some p)] 29) (B3:Box w0 p3 [.int .i64 t] 23) :
  jQT prog 198 #[.pointer (some p2),.pointer (some p3)] (fun z:Int=>#[.int .i64 z]) (Sp.subs L t) (fun _=>True) w0:=by
 intro l J Jx W E _ hJ hJx hyield h0
 refine (w_T1 (.func (.yield l) #[] #[]) p2 p3 W (fun A=>∃X,Hst W X A X A∧(J (Sp.subs L t) X A∨∃pre,Jx pre X A)) ?_).mono (fun e A h=>⟨⟨_,h.1⟩,h.2⟩)
 unfold m_T1
 refine ⟨some p,(B2.pure E).cell0,t,(B3.pure E).cell0,?_⟩
 refine (c_subs p t W hW (hP.pure E)).mono ?_
 rintro _ w1 ⟨r,rfl,hr⟩
 refine ⟨_,rfl,?_⟩
 generalize hxs:Sp.subs L t=xs at *
 have hfew:xs.length≤65536:=by rw [← hxs];have:=Sp.jAI hW t;have:=hW.ok.few;omega
 have hs1:Hst W None W (fun b=>W.heap.size≤b∧b<w1.heap.size) w1:=⟨hr.pure.pure,fun _ h=>h.elim,fun b h=>.inr h.1,fun b h=>h.1,fun b h=>h.2,hr.pure.size⟩
 have hX:∀b,r.blk b→W.heap.size≤b∧b<w1.heap.size:=fun b hb=>⟨hr.own b hb,hr.rows.lt hb⟩
 refine ⟨fun x A=>∃j:Nat,x=j∧j≤xs.length∧Hst W (fun b=>W.heap.size≤b∧b<w1.heap.size) A (fun b=>W.heap.size≤b∧b<w1.heap.size) A∧J (xs.take j) (fun b=>W.heap.size≤b∧b<w1.heap.size) A∧Rws A 23 1 r (tmr xs),fun x _=>((xs.length:Int) - x).toNat,⟨0,rfl,Nat.zero_le _,hs1.here,hJ _ _ _ _ _ h0 hs1,hr.rows⟩,?_⟩
 rintro _ A ⟨j,rfl,hj,hA,hJA,hRA⟩
 unfold m_T1_l1
 have hlen:r.len=xs.length:=by rw [hr.rows.len,yX]
 refine ⟨fun hc=>?_,fun hc=>?_⟩
 ·have hc:j<xs.length:=by have:=of_decide_eq_true hc;omega
  obtain ⟨a,hat,_,hv⟩:=jBJ hRA.lst hc
  refine ⟨a,hat,_,hv,l,rfl,?_⟩
  refine (hyield (xs.take j) xs[j] _ A hJA hA ⟨xs.drop (j+1),by rw [← List.drop_eq_getElem_cons hc,List.take_append_drop]⟩).mono ?_
  rintro e A' (⟨rfl,hk,hJ'⟩ | ⟨rfl,hk,hJ'⟩)
  ·refine ⟨_,rfl,Br.f rfl ⟨⟨j+1,vQ hc (by omega),hc,hA.again hk,by rw [List.take_succ_eq_append_getElem hc];exact hJ',hRA.kept hk hX⟩,?_⟩⟩
   rw [vQ hc (by omega)]
   show ((xs.length:Int) - ((j+1:Nat):Int)).toNat<((xs.length:Int) - (j:Int)).toNat
   omega
  ·exact ⟨_,rfl,Br.t rfl ⟨_,hA.again hk,.inr ⟨_,hJ'⟩⟩⟩
 ·have hc:j=xs.length:=by have:=of_decide_eq_false hc;omega
  subst hc
  rw [List.take_length] at hJA
  exact ⟨_,hA,.inl hJA⟩
end Go.Proofs
end
section
open Go Go.SE
namespace Go.Proofs
open Tryz
attribute [local irreducible] Calls CallsD
theorem jSW {w:World} {e:TypeId} {sz:Nat} {s:Sl} {rs:List (List Value)} (h:Rws w e sz s rs):s.a=none→s=Sl.nil:=by
 intro ha;rcases h.own with ⟨h,_⟩ | ⟨g,cur,h,_⟩
 ·exact h
 ·rw [ha] at h;cases h
theorem jSK (f:Fld):∀args w,(callFunc f.put args).run prog w=.ok (.enter f.put args) w:=by
 cases f
 ·exact call182
 ·exact call186
 ·exact call188
 ·exact call190
 ·exact call194
 ·exact call196
theorem jPZ {P:Program} {T K E Q:TypeId} {w:World} {m:Nat} {es:List (Value×Value)} (h:CMap w m es) (hT:P.underlying T=some (.map K E)):(Builtin.len_ #[T] Q #[.map (some m)]).run P w=.ok (.int .i64 (es.length:Int)) w:=by
 obtain ⟨arr,clock,hm,rfl,_,_⟩:=h.ex;have hg:(getObj m).run P w=.ok (.map arr clock) w:=by simp [getObj,Sem.run,hm]
 simp [Builtin.len_,run_underlying hT,hg,goInt]
theorem jSE {n:Sp.Node} (h:Fld.fst∈yQ n.kind):n.a∈Sp.zH n:=by
 unfold yQ at h;unfold Sp.zH Sp.shapeOf
 repeat' split at h
 all_goals first | (exfalso;revert h;decide) | skip
 all_goals (rename_i h1;rw [h1];simp)
theorem jSC {n:Sp.Node} (h:Fld.snd∈yQ n.kind):n.b∈Sp.zH n:=by
 unfold yQ at h;unfold Sp.zH Sp.shapeOf
 repeat' split at h
 all_goals first | (exfalso;revert h;decide) | skip
 all_goals (rename_i h1;rw [h1];simp)
structure LaySep (p2 p3 p4 p6:Addr) (m mb:Nat) (FP F:NP) (B:Nat):Prop where
 lt:p2.block<B∧p3.block<B∧p4.block<B∧p6.block<B∧m<B∧mb<B
 lF:∀b,F b→b<B
 lP:∀b,FP b→b<B
 d3:p2.block≠p3.block∧p4.block≠p3.block∧p6.block≠p3.block∧mb≠p3.block∧m≠p3.block∧¬ F p3.block∧¬ FP p3.block
 db:p2.block≠mb∧p4.block≠mb∧p6.block≠mb∧m≠mb∧¬ F mb∧¬ FP mb
def LayV (p2 p3 p4 p6:Addr) (m mb:Nat) (FP F:NP) (s:Sl) (b:Nat):Prop :=
 b=p2.block∨b=p3.block∨b=p4.block∨b=p6.block∨b=m∨b=mb∨F b∨FP b∨s.blk b
structure LayAt (A:World) (p p2 p3 p4 p6:Addr) (m mb:Nat) (L:Sp.Pool) (FP F:NP) (s:Sl) (bs:List UInt8) (M:List (Int×Int)):Prop where
 b2:Box A p2 [.pointer (some p)] 29
 b3:Box A p3 [s.v] 54
 b4:Box A p4 [.map (some m)] 203
 b6:Box A p6 [.map (some mb)] 205
 rows:Rws A 5 1 s (byr bs)
 nums:IMap (fun i:Int=>.int .i64 i) A mb M
 kinds:Kinds A m F
 pool:zO A p L FP
section
variable {A A':World} {p p2 p3 p4 p6:Addr} {m mb B:Nat} {L:Sp.Pool} {FP F G:NP} {s s':Sl} {bs bs':List UInt8} {M:List (Int×Int)}
theorem LayAt.ext (h:LayAt A p p2 p3 p4 p6 m mb L FP F s bs M) (E:Ext G A A') (hG:∀b,LayV p2 p3 p4 p6 m mb FP F s b→¬ G b):LayAt A' p p2 p3 p4 p6 m mb L FP F s bs M :=
 ⟨h.b2.ext E (hG _ (.inl rfl)),h.b3.ext E (hG _ (.inr (.inl rfl))),h.b4.ext E (hG _ (.inr (.inr (.inl rfl)))),h.b6.ext E (hG _ (.inr (.inr (.inr (.inl rfl))))),
 h.rows.ext E (fun b hb=>hG b (.inr (.inr (.inr (.inr (.inr (.inr (.inr (.inr hb))))))))),h.nums.ext E (hG _ (.inr (.inr (.inr (.inr (.inr (.inl rfl))))))),
 h.kinds.ext E (fun b hb=>hb.elim (fun hb=>hG b (.inr (.inr (.inr (.inr (.inr (.inr (.inl hb)))))))) (fun e=>hG b (.inr (.inr (.inr (.inr (.inl e))))))),
 h.pool.ext E (fun b hb=>hG b (.inr (.inr (.inr (.inr (.inr (.inr (.inr (.inl hb)))))))))⟩
theorem LayAt.pure (h:LayAt A p p2 p3 p4 p6 m mb L FP F s bs M) (E:Pure A A'):LayAt A' p p2 p3 p4 p6 m mb L FP F s bs M:=h.ext E (fun _ _ h=>h)
theorem LayAt.lt (h:LayAt A p p2 p3 p4 p6 m mb L FP F s bs M) {b:Nat} (hb:LayV p2 p3 p4 p6 m mb FP F s b):b<A.heap.size:=by
 rcases hb with rfl | rfl | rfl | rfl | rfl | rfl | hb | hb | hb
 ·exact h.b2.lt
 ·exact h.b3.lt
 ·exact h.b4.lt
 ·exact h.b6.lt
 ·exact h.kinds.mlt
 ·exact h.nums.lt
 ·exact h.kinds.lt _ hb
 ·exact h.pool.lt hb
 ·exact h.rows.lt hb
theorem LayAt.put (h:LayAt A p p2 p3 p4 p6 m mb L FP F s bs M) (S:LaySep p2 p3 p4 p6 m mb FP F B) (hs:∀b,s.blk b→B≤b) (hs':∀b,s'.blk b→B≤b) (E:Ext s.blk A A') (hR:Rws A' 5 1 s' (byr bs')) :
  LayAt (A'.setCell p3 s'.v) p p2 p3 p4 p6 m mb L FP F s' bs' M∧Ext (fun b=>s.blk b∨b=p3.block) A (A'.setCell p3 s'.v):=by
 have E2:Ext (·=p3.block) A' (A'.setCell p3 s'.v):=Ext.setCell p3 _
 have EE:Ext (fun b=>s.blk b∨b=p3.block) A (A'.setCell p3 s'.v):=(E.mono (fun b _ h=>.inl h)).trans (E2.mono (fun b _ h=>.inr h))
 obtain ⟨l2,l3,l4,l6,lm,lb⟩:=S.lt
 obtain ⟨d2,d4,d6,d7,d8,d9,d10⟩:=S.d3
 have ns:∀b,b<B→¬ s.blk b:=fun b hb hh=>by have:=hs b hh;omega
 have b3:=(h.b3.ext E (ns _ l3)).set0 (v:=s'.v)
 refine ⟨⟨h.b2.ext EE ?_,b3,h.b4.ext EE ?_,h.b6.ext EE ?_,hR.ext E2 (fun b hb e=>by have:=hs' b hb;omega),h.nums.ext EE ?_,h.kinds.ext EE ?_,h.pool.ext EE ?_⟩,EE⟩
 ·rintro (hh | hh)
  ·exact ns _ l2 hh
  ·exact d2 hh
 ·rintro (hh | hh)
  ·exact ns _ l4 hh
  ·exact d4 hh
 ·rintro (hh | hh)
  ·exact ns _ l6 hh
  ·exact d6 hh
 ·rintro (hh | hh)
  ·exact ns _ lb hh
  ·exact d7 hh
 ·rintro b (hb | rfl) (hh | hh)
  ·exact ns _ (S.lF b hb) hh
  ·subst hh;exact d9 hb
  ·exact ns _ lm hh
  ·exact d8 hh
 ·rintro b hb (hh | hh)
  ·exact ns _ (S.lP b hb) hh
  ·subst hh;exact d10 hb
end
theorem c_lay (p:Addr) (t:Int) (w0:World) {L:Sp.Pool} {FP:NP} (hW:Sp.Wf L) (hN:Sp.tI L) (hP:zO w0 p L FP) :
  Calls prog 98 #[.pointer (some p),.int .i64 t] w0 (fun e w'=>∃r:Sl,e=.returned r.v∧RetO w0 5 1 (byr (uG L t)) r w'):=by
 refine w_O1 _ _ w0 (fun r w'=>RetO w0 5 1 (byr (uG L t)) r w') ?_
 unfold m_O1
 intro p2 w1 h1 p3 w2 h2
 have E1:Pure w0 w1:=Ext.new h1
 have E2:Pure w1 w2:=Ext.new h2
 have B2:=(Box.of_new h1).pure E2
 have B3:=Box.of_new h2
 have s1:=h1.at_size;have s2:=h2.at_size;have l2:=(Box.of_new h1).lt;have l3:=B3.lt;have z1:=E1.size;have z2:=E2.size
 refine (jQJ w2).mono ?_
 rintro _ w3 ⟨_,rfl,m,F,rfl,hK,E3,hm,hF⟩
 have z3:=E3.size
 have lm:=hK.mlt
 refine ⟨_,rfl,E3.keptP,?_⟩
 intro p4 w4 h4
 have E4:Pure w3 w4:=Ext.new h4
 have B4:=Box.of_new h4
 have s4:=h4.at_size;have l4:=B4.lt;have z4:=E4.size
 refine ⟨B4.canW0 (by simp),fun h=>h,?_⟩
 rintro w5 h5
 have X5:Ext (·=p4.block) w4 w5:=by rw [h5];exact Ext.setCell p4 _
 have B4':Box w5 p4 [.map (some m)] 203:=by rw [h5];exact B4.set0
 have z5:=X5.size
 intro p5 w6 h6
 have E6:Pure w5 w6:=Ext.new h6
 have M5:=IMap.of_new (f:=fun i:Int=>.int .i64 i) h6
 have s6:=h6.at_size;have l5:=M5.lt;have z6:=E6.size
 intro p6 w7 h7
 have E7:Pure w6 w7:=Ext.new h7
 have B6:=Box.of_new h7
 have s7:=h7.at_size;have l6:=B6.lt;have z7:=E7.size
 refine ⟨B6.canW0 (by simp),fun h=>h,?_⟩
 rintro w8 h8
 have X8:Ext (·=p6.block) w7 w8:=by rw [h8];exact Ext.setCell p6 _
 have B6':Box w8 p6 [.map (some p5.block)] 205:=by rw [h8];exact B6.set0
 have z8:=X8.size
 have E08:Pure w0 w8:=((((((E1.trans E2).trans E3).trans E4).own (by omega) X5).trans E6).trans E7).own (by omega) X8
 have P8:=hP.pure E08
 have up:∀{T:TypeId} {c:Addr} {vs:List Value},Box w5 c vs T→c.block≠p6.block→Box w8 c vs T:=fun h h2=>((h.pure E6).pure E7).ext X8 h2
 have up3:∀{T:TypeId} {c:Addr} {vs:List Value},Box w2 c vs T→c.block≠p4.block→c.block≠p6.block→Box w8 c vs T:=fun h h1 h2=>up (((h.pure E3).pure E4).ext X5 h1) h2
 have B28:=up3 B2 (by omega) (by omega)
 have B38:=up3 B3 (by omega) (by omega)
 have B48:=up B4' (by omega)
 have M58:=(M5.pure E7).ext X8 (by omega)
 have hFlt:=hK.lt
 have K8:Kinds w8 m F:=(((((hK.pure E4).ext X5 (fun b hb e=>hb.elim (fun hb=>by have:=hFlt b hb;omega) (fun hb=>by omega))).pure E6).pure E7).ext X8 (fun b hb e=>hb.elim (fun hb=>by have:=hFlt b hb;omega) (fun hb=>by omega)))
 refine ⟨some p,B28.cell0,?_⟩
 refine (jQM p t w8).mono ?_
 rintro _ w9 ⟨_,rfl,q2,q3,rfl,Bq2,Bq3,E9⟩
 have z9:=E9.size
 have E09:=E08.trans E9
 refine ⟨_,rfl,E9.keptP,_,_,rfl,call198,_,_,jKM hW (P8.pure E9) Bq2 Bq3,?_⟩
 have hPlt:∀b,FP b→b<w0.heap.size:=fun b hb=>hP.lt hb
 have S:LaySep p2 p3 p4 p6 m p5.block FP F w9.heap.size:=⟨⟨by omega,by omega,by omega,by omega,by omega,by omega⟩,fun b hb=>by have:=hFlt b hb;omega,fun b hb=>by have:=hPlt b hb;omega,
  ⟨by omega,by omega,by omega,by omega,by omega,fun hb=>by have:=hF _ hb;omega,fun hb=>by have:=hPlt _ hb;omega⟩,⟨by omega,by omega,by omega,by omega,fun hb=>by have:=hFlt _ hb;omega,fun hb=>by have:=hPlt _ hb;omega⟩⟩
 have A9:LayAt w9 p p2 p3 p4 p6 m p5.block L FP F Sl.nil [] []:=⟨B28.pure E9,B38.pure E9,B48.pure E9,B6'.pure E9,Rws.nil _ _ _,M58.pure E9,K8.pure E9,P8.pure E9⟩
 have hnil:∀b,¬ Sl.nil.blk b:=fun b hb=>by obtain ⟨a,h,_⟩:=hb;cases h
 have hfew:=Sp.jAI hW t
 have hsub:∀u∈Sp.subs L t,Sp.inP L u=true:=fun u hu=>have h:=(Sp.jDS hW).1 hu;(Sp.Sub.le hW h.1 h.2).1
 have hord:=Sp.jGH hW t
 have hnd:=Sp.jCK hW t
 have htx:uG L t=textFrom L [] (Sp.subs L t):=rfl
 rw [htx]
 generalize hxs:Sp.subs L t=xs at *
 have hL:=hW.ok.few
 generalize hB:w9.heap.size=B at *
 have hw3:w0.heap.size≤p3.block:=by omega
 have hw5:w0.heap.size≤p5.block:=by omega
 have hwB:w0.heap.size≤B:=by omega
 generalize p5.block=mb at *
 clear up up3 B28 B38 B48 M58 K8 P8 B2 B3 B4 B4' M5 B6 B6' X5 X8 E1 E2 E3 E4 E6 E7 h1 h2 h4 h5 h6 h7 h8 hK hF hFlt Bq2 Bq3
 refine ⟨fun pre Y A=>∃s:Sl,LayAt A p p2 p3 p4 p6 m mb L FP F s (textFrom L [] pre) (yK 0 pre)∧(∀b,s.blk b→B≤b)∧(∀b,LayV p2 p3 p4 p6 m mb FP F s b→¬ Y b)∧B≤A.heap.size∧Pure w0 A,⟨fun _ _ _ _=>trivial,?_,fun _ _ _ _ _ h=>h.elim,fun _ _ _ _ _ h=>h.elim⟩,?_,?_,?_⟩
 ·rintro pre Y A Y' A' ⟨s,hA,hs,hv,hz,hE⟩ hst
  have hv':∀b,LayV p2 p3 p4 p6 m mb FP F s b→¬ Y' b:=hst.disj (fun b hb=>⟨hA.lt hb,hv b hb⟩)
  exact ⟨s,hA.ext hst.ext hv',hs,hv',Nat.le_trans hz hst.ext.size,hE.hst hst⟩
 ·exact ⟨Sl.nil,A9,fun b hb=>(hnil b hb).elim,fun b _ h=>h,by omega,E09⟩
 ·rintro pre z Y A ⟨s,hA,hs,hv,hz,hE⟩ hsA ⟨post,hpost⟩
  have hzin:Sp.inP L z=true:=hsub z (by rw [hpost];simp)
  have hprein:∀u∈pre,Sp.inP L u=true:=fun u hu=>hsub u (by rw [hpost];simp [hu])
  have hplen:pre.length<65536:=by have:=congrArg List.length hpost;simp only [List.length_append,List.length_cons] at this;omega
  have hzn:z ∉ pre:=by
   rw [hpost] at hnd;have:=(List.nodup_append.1 hnd).2.2;exact fun h=>this z h z (by simp) rfl
  have hbs:=jCX hW hN pre [] hprein (by simp only [List.length_nil];omega)
  refine ⟨some p,hA.b2.cell0,?_⟩
  refine (jJK p z A hA.pool hW.ok).mono ?_
  rintro _ w10 ⟨k,r,t',u,x,a,b,r3,rfl,⟨hn,_⟩,E10⟩
  refine ⟨_,_,_,_,_,_,_,_,rfl,E10.keptP,fun H1 w12 hs12=>?_⟩
  obtain ⟨k1,k9,f0,f1,t0,t1,x1⟩:=Sp.jGO hW hzin
  have hnum:=hN.node z
  have hko:=hord pre z post hpost
  have hnt:yP L pre z=UInt8.ofNat k.toNat :: (yQ k).flatMap (Fld.bytes ⟨k,r,t',u,x,a,b⟩ (posOf pre a) (posOf pre b)):=by rw [yP,← hn]
  rw [← hn] at k1 k9 f0 f1 t0 t1 x1 hnum hko
  simp only at k1 k9 f0 f1 t0 t1 x1 hnum
  have hold:∀b,H1 b→A.heap.size≤b:=hs12.old
  have A12:=(hA.pure E10).ext hs12.ext (fun b hb hh=>by have:=hold b hh;have:=hA.lt hb;omega)
  have E012:Pure w0 w12:=(hE.trans E10).trans' hs12.ext (fun i hi hh=>by have:=hold i hh;have:=hE.size;omega)
  have k12:Kept Y A w12:=(E10.keptP).trans (hs12.ext.kept (fun b hb hh=>by have:=hold b hh;have:=hsA.lt b hb;omega))
  have z10:=E10.size
  have z12:=hs12.ext.size
  refine ⟨s,A12.b3.cell0,fun p8 w13 h8=>?_⟩
  have E13:Pure w12 w13:=Ext.new h8
  have A13:=A12.pure E13
  have z13:=E13.size
  obtain ⟨kn,rfl⟩:∃kn:Nat,k=kn:=⟨k.toNat,by omega⟩
  simp only [Int.toNat_natCast] at hnt
  rw [tN] at h8
  obtain ⟨s1,w14,hr,hR,hEx,hb⟩:=A13.rows.append (P:=prog) (ty:=54) (c:=1) jBN (Box.of_newA h8).row rfl rfl (by rw [vP];omega) (by rw [vP];simp only [maxLen];omega)
  have hs1:∀b,s1.blk b→B≤b:=fun b hh=>(hb b hh).elim (hs b) (fun h=>by omega)
  have hy1:∀b,s1.blk b→¬ Y b:=fun b hh hY=>(hb b hh).elim (fun h=>hv b (.inr (.inr (.inr (.inr (.inr (.inr (.inr (.inr h)))))))) hY) (fun h=>by have:=hsA.lt b hY;omega)
  have h3A:p3.block<A.heap.size:=hA.b3.lt
  have hH3:¬ H1 p3.block:=fun h=>by have:=hold _ h;omega
  have hHs:∀b,H1 b→¬ s.blk b:=fun b hh hb=>by have:=hold b hh;have:=hA.rows.lt hb;omega
  have hY3:¬ Y p3.block:=hv _ (.inr (.inl rfl))
  have hYs:∀b,Y b→¬ s.blk b:=fun b hY hb=>hv b (.inr (.inr (.inr (.inr (.inr (.inr (.inr (.inr hb)))))))) hY
  refine ⟨s1,w14,hr,hEx.kept hHs,((A13.b3.ext hEx (fun hb=>by have:=hs _ hb;have:=S.lt;omega)).canW0 (by simp)),hH3,?_⟩
  rintro w15 h15
  have hR':Rws w14 5 1 s1 (byr (textFrom L [] pre++[UInt8.ofNat kn])):=by rw [jGY];exact hR
  obtain ⟨A15,X15⟩:=A13.put S hs hs1 hEx hR'
  rw [← h15] at A15 X15
  have E015:Pure w0 w15:=(E012.trans E13).trans' X15 (fun i hi hh=>hh.elim (fun hh=>by have:=hs _ hh;omega) (fun hh=>by omega))
  have k15:Kept Y A w15:=(k12.trans E13.keptP).trans (X15.kept (fun b hY hh=>hh.elim (hYs b hY) (fun e=>by subst e;exact hY3 hY)))
  have z15:=X15.size
  obtain ⟨fs,hlk,hLf⟩:=A15.kinds.get kn k1 k9 false
  refine ⟨some m,A15.b4.cell0,fs,hlk,?_⟩
  have hfl3:=jGT kn
  refine ⟨fun y H w=>∃(j:Nat) (s:Sl),y=j∧j≤(yQ kn).length∧H=H1∧LayAt w p p2 p3 p4 p6 m mb L FP F s (textFrom L [] pre++UInt8.ofNat kn :: ((yQ kn).take j).flatMap (Fld.bytes ⟨kn,r,t',u,x,a,b⟩ (posOf pre a) (posOf pre b))) (yK 0 pre)∧Lst F w 2 fs ((yQ kn).map Fld.row)∧(∀b,s.blk b→B≤b)∧(∀b,s.blk b→¬ Y b)∧Kept Y A w∧Pure w0 w∧A.heap.size≤w.heap.size,fun y _=>(((yQ kn).length:Int) - y).toNat,⟨0,s1,rfl,Nat.zero_le _,rfl,by simpa using A15,hLf,hs1,hy1,k15,E015,by omega⟩,?_⟩
  rintro _ _ wl hst ⟨j,s2,rfl,hj,rfl,A2,hL2,hs2,hy2,k2,E2,z2⟩
  unfold m_O1_l1
  have hlen:fs.len=(yQ kn).length:=by rw [hL2.len,List.length_map]
  refine ⟨fun hc=>?_,fun hc=>?_⟩
  ·have hc:=uY hlen hc
   obtain ⟨a1,hat,hF1,hrow⟩:=hL2.at_ j (by simpa using hc)
   rw [List.getElem_map] at hrow
   refine ⟨a1,hat,.func (.func (yQ kn)[j].put) #[] #[],.func (.func (yQ kn)[j].get) #[] #[],hrow,fun p9 w16 h9=>?_⟩
   have E16:Pure wl w16:=Ext.new h9
   have B9:=Box.of_newA h9
   have s9:=h9.at_size
   have z16:=E16.size
   refine ⟨⟨rfl,B9.canWs (by simp)⟩,fun hh=>by have:=hst.lt _ hh;omega,?_⟩
   rintro w17 h17
   have X17:Ext (·=p9.block) w16 w17:=by rw [h17];exact Ext.storeRow _ _ _
   have B9':Box w17 p9 [.func (.func (yQ kn)[j].put) #[] #[],.func (.func (yQ kn)[j].get) #[] #[]] 213:=by rw [h17];exact B9.store rfl
   have A17:=(A2.pure E16).ext X17 (fun b hb e=>by have:=A2.lt hb;omega)
   have L17:=(hL2.pure E16).ext X17 (fun b hb e=>by have:=A2.kinds.lt b hb;omega)
   have z17:=X17.size
   have E017:Pure w0 w17:=(E2.trans E16).own (by have:=E2.size;omega) X17
   have k17:Kept Y A w17:=(k2.trans E16.keptP).trans (X17.kept (fun b hY e=>by have:=hsA.lt b hY;omega))
   refine ⟨_,B9'.cell0,s2,A17.b3.cell0,some mb,A17.b6.cell0,_,#[],#[],rfl,jSK _,?_⟩
   simp only [Array.empty_append,Array.append_empty]
   have hbl:=jIO (Fld.bytes ⟨kn,r,t',u,x,a,b⟩ (posOf pre a) (posOf pre b)) 74 ((yQ kn).take j) (fun f _=>jPR _ _ _ f f1 t1 hnum x1 (by have:=tQ pre a;omega) (by have:=tQ pre b;omega))
   have hbl2:((yQ kn).take j).length≤3:=by rw [List.length_take];omega
   have hbn:(textFrom L [] pre++UInt8.ofNat kn :: ((yQ kn).take j).flatMap (Fld.bytes ⟨kn,r,t',u,x,a,b⟩ (posOf pre a) (posOf pre b))).length≤10000000000:=by
    rw [List.length_append,List.length_cons];omega
   refine (c_put (yQ kn)[j] s2 _ ⟨kn,r,t',u,x,a,b⟩ (posOf pre a) (posOf pre b) mb (yK 0 pre) w17 A17.rows.lst (jSW A17.rows) hbn ⟨f0,by simp only;omega⟩ ⟨t0,by simp only;omega⟩ hnum (by simp only;omega) A17.nums (fun e=>?_) (fun e=>?_)).mono ?_
   ·have hmem:a∈pre:=hko _ (jSE (n:=⟨kn,r,t',u,x,a,b⟩) (by rw [← e];exact List.getElem_mem _))
    exact ⟨by rw [jDB pre a hmem 0];simp,by have:=tQ pre a;omega⟩
   ·have hmem:b∈pre:=hko _ (jSC (n:=⟨kn,r,t',u,x,a,b⟩) (by rw [← e];exact List.getElem_mem _))
    exact ⟨by rw [jDB pre b hmem 0];simp,by have:=tQ pre b;omega⟩
   rintro _ w18 ⟨r4,rfl,hR4⟩
   have E18:=hR4.pure
   have z18:=E18.size
   refine ⟨r4,rfl,hR4.kept,(A17.b3.pure E18).canW0 (by simp),hH3,?_⟩
   rintro w19 h19
   have hs4:∀b,r4.blk b→B≤b:=fun b hb=>by have:=hR4.own b hb;omega
   have hR5:Rws w18 5 1 r4 (byr (textFrom L [] pre++UInt8.ofNat kn :: ((yQ kn).take (j+1)).flatMap (Fld.bytes ⟨kn,r,t',u,x,a,b⟩ (posOf pre a) (posOf pre b)))):=by
    have e:textFrom L [] pre++UInt8.ofNat kn :: ((yQ kn).take (j+1)).flatMap (Fld.bytes ⟨kn,r,t',u,x,a,b⟩ (posOf pre a) (posOf pre b))=(textFrom L [] pre++UInt8.ofNat kn :: ((yQ kn).take j).flatMap (Fld.bytes ⟨kn,r,t',u,x,a,b⟩ (posOf pre a) (posOf pre b)))++(yQ kn)[j].bytes ⟨kn,r,t',u,x,a,b⟩ (posOf pre a) (posOf pre b):=by
     rw [List.take_succ_eq_append_getElem hc,List.flatMap_append];simp
    rw [e];exact hR4.rows
   obtain ⟨A19,X19⟩:=A17.put S hs2 hs4 E18.pure hR5
   rw [← h19] at A19 X19
   have z19:=X19.size
   refine ⟨⟨j+1,r4,vQ hc (by omega),hc,trivial,A19,L17.ext X19 (fun b hb hh=>?_),hs4,fun b hb hY=>by have:=hR4.own b hb;have:=hsA.lt b hY;omega,k17.trans (X19.kept (fun b hY hh=>hh.elim (fun h=>hy2 b h hY) (fun e=>by subst e;exact hY3 hY))),E017.trans' X19 (fun i hi hh=>hh.elim (fun hh=>by have:=hs2 _ hh;omega) (fun hh=>by omega)),by omega⟩,?_⟩
   ·rcases hh with hh | hh
    ·have:=hs2 b hh;have:=S.lF b hb;omega
    ·subst hh;exact S.d3.2.2.2.2.2.1 hb
   ·rw [vQ hc (by omega)];exact jES hc
  ·have hc:=tE hlen hj hc
   subst hc
   rw [List.take_length] at A2
   have e:textFrom L [] (pre++[z])=textFrom L [] pre++UInt8.ofNat kn :: (yQ kn).flatMap (Fld.bytes ⟨kn,r,t',u,x,a,b⟩ (posOf pre a) (posOf pre b)):=by rw [tP,List.nil_append,hnt]
   have hlk0:SE.look (yK 0 pre) z=none:=tB.2 (by rw [jIC];exact hzn)
   obtain ⟨w20,hr20,hM20,X20⟩:=A2.nums.put (P:=prog) (T:=205) underlying205 underlying23 hlk0 ((pre.length:Nat):Int)
   have hz3:(Builtin.len_ #[205] 3 #[.map (some mb)]).run prog wl=.ok (.int .i64 ((pre.length:Nat):Int)) wl:=by
    have:=jPZ A2.nums.map (P:=prog) (T:=205) (Q:=3) underlying205;rw [List.length_map,jKG] at this;exact this
   have hYb:¬ Y mb:=hv _ (.inr (.inr (.inr (.inr (.inr (.inl rfl))))))
   have kk:∀{H:NP},¬ H mb→Kept H wl w20:=fun h=>X20.kept (fun b hb e=>by subst e;exact h hb)
   have hmbA:mb<A.heap.size:=hA.nums.lt
   refine ⟨some mb,A2.b6.cell0,some mb,A2.b6.cell0,_,hz3,w20,hr20,kk (fun h=>by have:=hold _ h;omega),k2.trans (kk hYb),s2,?_,hs2,fun b hb hY=>?_,by have:=X20.size;have:=E2.size;omega,E2.trans' X20 (fun i hi e=>by omega)⟩
   ·rw [e,jIB,Nat.zero_add]
    obtain ⟨g1,g2,g3,g4,g5,g6⟩:=S.db
    exact ⟨A2.b2.ext X20 g1,A2.b3.ext X20 (fun e=>S.d3.2.2.2.1 e.symm),A2.b4.ext X20 g2,A2.b6.ext X20 g3,A2.rows.ext X20 (fun b hb e=>by have:=hs2 b hb;have:=S.lt;omega),hM20,A2.kinds.ext X20 (fun b hb e=>hb.elim (fun hb=>by subst e;exact g5 hb) (fun hb=>g4 (hb▸e))),A2.pool.ext X20 (fun b hb e=>by subst e;exact g6 hb)⟩
   ·rcases hb with hb | hb | hb | hb | hb | hb | hb | hb | hb
    ·exact hv b (.inl hb) hY
    ·exact hv b (.inr (.inl hb)) hY
    ·exact hv b (.inr (.inr (.inl hb))) hY
    ·exact hv b (.inr (.inr (.inr (.inl hb)))) hY
    ·exact hv b (.inr (.inr (.inr (.inr (.inl hb))))) hY
    ·exact hv b (.inr (.inr (.inr (.inr (.inr (.inl hb)))))) hY
    ·exact hv b (.inr (.inr (.inr (.inr (.inr (.inr (.inl hb))))))) hY
    ·exact hv b (.inr (.inr (.inr (.inr (.inr (.inr (.inr (.inl hb)))))))) hY
    ·exact hy2 b hb hY
 ·rintro H2 w21 hs21 _ _ ⟨s,hA,hs,hv,hz,hE⟩
  refine ⟨s,hA.b3.cell0,fun w22 hs22=>⟨hA.rows.ext hs22.ext (fun b hb=>hv b (.inr (.inr (.inr (.inr (.inr (.inr (.inr (.inr hb))))))))),fun b hb=>by have:=hs b hb;omega,hE.hst hs22⟩⟩
theorem jLZ (p:Addr) (t:Int) (w0:World) {L:Sp.Pool} {FP:NP} (hW:Sp.Wf L) (hN:Sp.tI L) (hP:zO w0 p L FP) :
  Calls prog 49 #[.pointer (some p),.int .i64 t] w0 (fun e w'=>∃r:Sl,∃n:Int,e=.returned (.tuple #[r.v,.int .i64 n])∧(n=(jDO L t).2∧RetO w0 5 1 (byr (jDO L t).1) r w')):=by
 refine w_W3 _ _ w0 (fun r n w'=>n=(jDO L t).2∧RetO w0 5 1 (byr (jDO L t).1) r w') ?_
 unfold m_W3
 have hnil:∀b,¬ Sl.nil.blk b:=fun b hb=>by obtain ⟨a,h,_⟩:=hb;cases h
 refine (jJK p t w0 hP hW.ok).mono ?_
 rintro _ w1 ⟨k,r,t',u,x,a,b,r3,rfl,⟨hn,rfl⟩,E1⟩
 refine ⟨_,_,_,_,_,_,_,_,rfl,E1.keptP,fun hc H1 w3 hs3=>?_,fun hc H1 w3 hs3=>?_⟩
 ·have hin:Sp.inP L t=false:=by simpa using hc
  have e:jDO L t=([],51):=by unfold jDO;rw [hin];rfl
  rw [e]
  exact ⟨rfl,Rws.nil _ _ _,fun b hb=>(hnil b hb).elim,E1.hst hs3⟩
 ·have hin:Sp.inP L t=true:=by simpa using hc
  have E3:Pure w0 w3:=E1.hst hs3
  refine (c_lay p t w3 hW hN (hP.pure E3)).mono ?_
  rintro _ w4 ⟨r2,rfl,h⟩
  have hl:r2.len=(uG L t).length:=by rw [h.rows.len,vP]
  refine ⟨r2,rfl,h.kept,fun hc=>?_,fun hc=>?_⟩
  ·have hc:=of_decide_eq_true hc
   have e:jDO L t=([],1):=by unfold jDO;rw [hin,if_pos rfl,if_pos (by omega)]
   rw [e]
   exact ⟨rfl,Rws.nil _ _ _,fun b hb=>(hnil b hb).elim,E3.trans h.pure⟩
  ·have hc:=of_decide_eq_false hc
   have e:jDO L t=(uG L t,0):=by unfold jDO;rw [hin,if_pos rfl,if_neg (by omega)]
   rw [e]
   exact ⟨rfl,h.rows,fun b hb=>by have:=h.own b hb;have:=E3.size;omega,E3.trans h.pure⟩
end Go.Proofs
end
section
open Go Go.SE
namespace Go.Proofs
open Tryz
attribute [local irreducible] Calls
theorem jQZ:SlType prog 264 4 1 1:=by
 refine ⟨underlying264,⟨t4,_,by kernel_rfl,(by kernel_rfl:t4.zero=some (.bool false)),by kernel_rfl,by kernel_rfl,rfl⟩,by omega⟩
theorem jNU:∀i z,prog.info? 4=some i→i.zero=some z→z.cells=#[Value.bool false]:=by
 intro i z hi hz;have h1:prog.info? 4=some t4:=by kernel_rfl
 rw [h1] at hi;cases hi;have h2:t4.zero=some (.bool false):=by kernel_rfl
 rw [h2] at hz;cases hz;rfl
def brw (n:Nat) (V:Int→Bool):List (List Value):=(List.range n).map fun i:Nat=>[Value.bool (V (i:Int))]
theorem jGZ (n:Nat) (V:Int→Bool):(brw n V).length=n:=by simp [brw]
theorem jQQ (n:Nat):List.replicate n [Value.bool false]=brw n (fun _=>false):=by
 unfold brw;rw [List.map_const',List.length_range]
theorem jVD (n:Nat) (V:Int→Bool) (t:Nat) (b:Bool):(brw n V).set t [.bool b]=brw n (Sp.upd V (t:Int) b):=by
 apply List.ext_getElem?;intro i;rw [List.getElem?_set];by_cases h:t=i
 ·subst h;rw [if_pos rfl];by_cases hl:t<n
  ·simp [brw,hl,Sp.upd]
  ·simp [brw,hl]
 ·rw [if_neg h];by_cases hl:i<n
  ·simp [brw,hl,Sp.upd,show ¬ (i:Int)=t by omega]
  ·simp [brw,hl]
section
variable {w w':World} {e:TypeId} {s:Sl} {n:Nat} {V:Int→Bool}
theorem jVF (h:Rws w e 1 s (brw n V)) {t:Int} (h0:0≤t) (ht:t<n):∃a,At s t 1 a∧s.blk a.block∧w.cell? a=some (.bool (V t)):=by
 obtain ⟨a,h1,h2,h3⟩:=h.at h0 (by rw [jGZ];omega);refine ⟨a,h1,h3,?_⟩;have:(brw n V)[t.toNat]'(by rw [jGZ];omega)=[Value.bool (V t)]:=by
  simp only [brw,List.getElem_map,List.getElem_range];rw [show ((t.toNat:Nat):Int)=t by omega]
 rw [this] at h2;exact jBQ h2
theorem jVE (h:Rws w e 1 s (brw n V)) {t:Int} (h0:0≤t) (ht:t<n):∃a,At s t 1 a∧s.blk a.block∧zQ w a∧∀b,Rws (w.setCell a (.bool b)) e 1 s (brw n (Sp.upd V t b))∧Ext s.blk w (w.setCell a (.bool b)):=by
 have hset:∀b:Bool,∃a,At s t 1 a∧(∀j,j<1→zQ w (a.add j))∧∀w',w'=storeRow w a [Value.bool b]→Rws w' e 1 s ((brw n V).set t.toNat [.bool b])∧Ext s.blk w w':=fun b=>h.set (i:=t.toNat) (by rw [jGZ];omega) rfl (by omega);obtain ⟨a,hat,hw,_⟩:=hset true;obtain ⟨a',h1,_,hblk⟩:=h.at h0 (by rw [jGZ];omega);have same:∀{x:Addr},At s t 1 x→x=a:=fun hx=>by
  obtain ⟨_,_,b1,hb1,rfl⟩:=hx;obtain ⟨_,_,b2,hb2,rfl⟩:=hat;rw [hb1] at hb2;cases hb2;rfl
 have h00:a.add 0=a:=by simp [Addr.add]
 refine ⟨a,hat,?_,by have:=hw 0 (by omega);rwa [h00] at this,fun b=>?_⟩
 ·have:=same h1;subst this;exact hblk
 ·obtain ⟨x,hx,_,hx2⟩:=hset b;have:=same hx;subst this;have hst:storeRow w x [Value.bool b]=w.setCell x (.bool b):=by show w.setCell (x.add 0) (.bool b)=_;rw [h00]
  obtain ⟨r1,r2⟩:=hx2 _ rfl;rw [hst] at r1 r2;rw [jVD,show ((t.toNat:Nat):Int)=t by omega] at r1;exact ⟨r1,r2⟩
end
structure WalkAt (w:World) (x q:Addr) (L:Sp.Pool) (st:(Int→Bool)×List Int) (FR:NP) (sv so:Sl):Prop where
 box:Box w x [.pointer (some q),sv.v,so.v] 266
 seen:Rws w 4 1 sv (brw (L.length+1) st.1)
 out:Rws w 23 1 so (tmr st.2)
 pool:qR w q L FR
 n1:¬ sv.blk x.block
 n2:¬ so.blk x.block
 n3:∀b,sv.blk b→¬ so.blk b
 n4:∀b,FR b→b≠x.block∧¬ sv.blk b∧¬ so.blk b
def WF (x:Addr) (sv so:Sl) (b:Nat):Prop:=b=x.block∨sv.blk b∨so.blk b
theorem qR.at7 {w:World} {q:Addr} {L:Sp.Pool} {FR:NP} (h:qR w q L FR) {t:Int} (ht:Sp.inP L t=true) (hok:Sp.Ok L):∃v,w.cell? q=some (Sl.v v)∧∃a,At v (IntKind.i64.wrap (t - 1)) 7 a∧w.cell? (a.add 5)=some (.int .i64 (Sp.nodeOf L t).a)∧w.cell? (a.add 6)=some (.int .i64 (Sp.nodeOf L t).b):=by
 obtain ⟨s1,s2,s3,h,_⟩:=h;obtain ⟨i,hi,rfl⟩:=Sp.jAO ht;have:=hok.few;obtain ⟨a,h1,h2⟩:=h.r1.nth hi;rw [IntWalk.i64_in _ (by omega),show (i:Int)+1 - 1=i by omega];have hn:=Sp.qJ hi;have e0:jRG L[i]=xC (Sp.nodeOf L ((i:Int)+1)):=by rw [hn];rfl
 rw [e0] at h2;exact ⟨s1,h.box.cell0,a,h1,h2 5 (by simp [xC]),h2 6 (by simp [xC])⟩
theorem jJB (x q:Addr) {L:Sp.Pool} (hW:Sp.Wf L):∀(n:Nat) (t:Int) (w0:World) (st:(Int→Bool)×List Int) (FR:NP) (sv so:Sl),t.toNat<n→WalkAt w0 x q L st FR sv so→Sp.OvOk L st→(∀y,st.1 y=true→y≤t→y∈st.2) →
  Calls prog 221 #[.pointer (some x),.int .i64 t] w0 (fun e w'=>e=.returned (.tuple #[])∧∃so',WalkAt w' x q L (Sp.qV L n t st) FR sv so'∧Ext (WF x sv so) w0 w'∧∀b,so'.blk b→so.blk b∨w0.heap.size≤b):=by
 intro n
 induction n with
 | zero=>intro t w0 st FR sv so h;omega
 | succ n ih =>
 intro t w0 st FR sv so hn h hst hm
 have hR:=Sp.xP hW (n+1) t st hn hst hm
 suffices key:∀K:WP,(∀so' w',WalkAt w' x q L (Sp.qV L (n+1) t st) FR sv so'→Ext (WF x sv so) w0 w'→(∀b,so'.blk b→so.blk b∨w0.heap.size≤b)→K w')→m_B1 (some x) t w0 K from
  w_B1 _ _ w0 _ (key _ (fun so' w' a b c=>⟨so',a,b,c⟩))
 intro K hK
 unfold m_B1
 refine ⟨x,rfl,_,h.box.cell0,?_⟩
 refine (uO q t w0 h.pool).mono ?_
 rintro _ w0 ⟨r1,rfl,rfl,rfl⟩
 refine ⟨_,rfl,fun hc=>?_,fun hc=>?_⟩
 ·have hin:Sp.inP L t=false:=by simpa using hc
  unfold m_B1_j1
  refine Br.t rfl ?_
  rw [Sp.qV,if_neg (by simp [hin])] at hK
  exact hK so w0 h (Ext.refl _) (fun b hb=>.inl hb)
 have hin:Sp.inP L t=true:=by simpa using hc
 obtain ⟨t1,tL⟩:=Sp.vA.1 hin
 obtain ⟨a13,at13,_,c13⟩:=jVF h.seen (t:=t) (by omega) (by omega)
 refine ⟨x,rfl,sv,h.box.cell rfl,a13,at13,_,c13,?_⟩
 unfold m_B1_j1
 refine ⟨fun hv=>?_,fun hv=>?_⟩
 ·rw [Sp.qV,if_neg (by simp [hv])] at hK
  exact hK so w0 h (Ext.refl _) (fun b hb=>.inl hb)
 rw [Sp.qV,if_pos ⟨hin,hv⟩] at hK hR
 obtain ⟨a2,at2,hb2,cw2,hput⟩:=jVE h.seen (t:=t) (by omega) (by omega)
 refine ⟨x,rfl,sv,h.box.cell rfl,a2,at2,cw2,?_⟩
 rintro _ rfl
 obtain ⟨R2,E2⟩:=hput true
 have A2:WalkAt (w0.setCell a2 (.bool true)) x q L (Sp.upd st.1 t true,st.2) FR sv so :=
  ⟨h.box.ext E2 h.n1,R2,h.out.ext E2 (fun b hb hb2=>h.n3 b hb2 hb),h.pool.ext E2 (fun b hb hb2=>(h.n4 b hb).2.1 hb2),h.n1,h.n2,h.n3,h.n4⟩
 generalize w0.setCell a2 (.bool true)=w2 at *
 obtain ⟨v3,c3,a5,at5,ca,cb⟩:=A2.pool.at7 hin hW.ok
 refine ⟨x,rfl,_,A2.box.cell0,q,rfl,v3,c3,a5,at5,_,ca,?_⟩
 have low:∀k,k=(Sp.nodeOf L t).a∨k=(Sp.nodeOf L t).b→k<t:=by
  intro k hk;have hkid:=(hW.node hin).2.2.2.2.1;cases hp:Sp.inP L k with
  | true=>exact (hkid k (Sp.jIL hW hin hk hp)).2
  | false =>
   have h1:=(hW.node hin).2.1
   have h2:=(hW.node hin).2.2.1
   rcases Sp.yG (Sp.nodeOf L t).kind with e | e | e
   ·have:=h1 (by omega);have:=h2 (by omega);rcases hk with hk | hk <;> omega
   ·have b0:=h2 (by omega)
    rcases hk with hk | hk
    ·have:=(hkid k (by unfold Sp.zH;rw [e,hk];simp)).2;exact this
    ·omega
   ·exact (hkid k (by unfold Sp.zH;rw [e];rcases hk with hk | hk <;> simp [hk])).2
 have la:=low _ (.inl rfl)
 have lb:=low _ (.inr rfl)
 have o1:Sp.OvOk L (Sp.upd st.1 t true,st.2):=⟨fun y hy=>by simp only [Sp.upd];split <;> simp [hst.marked y hy],hst.closed,hst.nd,hst.inp⟩
 have m1:∀y,(Sp.upd st.1 t true,st.2).1 y=true→y≤(Sp.nodeOf L t).a→y∈(Sp.upd st.1 t true,st.2).2:=fun y hy hle=>by
  simp only [Sp.upd] at hy;rw [if_neg (by omega)] at hy;exact hm y hy (by omega)
 have r1:=Sp.xP hW n (Sp.nodeOf L t).a _ (by omega) o1 m1
 refine (ih (Sp.nodeOf L t).a w2 _ FR sv so (by omega) A2 o1 m1).mono ?_
 rintro _ w3 ⟨rfl,so3,A3,X3,f3⟩
 generalize hs1:Sp.qV L n (Sp.nodeOf L t).a (Sp.upd st.1 t true,st.2)=s1 at *
 obtain ⟨v6,c6,a8,at8,_,cb3⟩:=A3.pool.at7 hin hW.ok
 refine ⟨rfl,x,rfl,_,A3.box.cell0,q,rfl,v6,c6,a8,at8,_,cb3,?_⟩
 have m2:∀y,s1.1 y=true→y≤(Sp.nodeOf L t).b→y∈s1.2:=fun y hy hle=>by
  rcases r1.back y hy with h' | h'
  ·simp only [Sp.upd] at h';rw [if_neg (by omega)] at h';have:=hm y h' (by omega);obtain ⟨M,e,_⟩:=r1.app;simp only at e;rw [e];exact List.mem_append_left _ this
  ·exact h'
 have r2:=Sp.xP hW n (Sp.nodeOf L t).b s1 (by omega) r1.toOvOk m2
 refine (ih (Sp.nodeOf L t).b w3 s1 FR sv so3 (by omega) A3 r1.toOvOk m2).mono ?_
 rintro _ w4 ⟨rfl,so4,A4,X4,f4⟩
 generalize hs2:Sp.qV L n (Sp.nodeOf L t).b s1=s2 at *
 refine ⟨rfl,x,rfl,so4,A4.box.cell rfl,?_⟩
 intro p1 w5 h5
 have E5:Pure w4 w5:=Ext.new h5
 have hfew:s2.2.length≤65536:=by have:=Sp.jBS r2.nd r2.inp;have:=hW.ok.few;omega
 obtain ⟨s1',w6,hr6,R6,X6,f6⟩:=(A4.out.pure E5).append (P:=prog) (ty:=137) (c:=1) jSV (r:=[.int .i64 t]) (Box.of_new h5).row rfl rfl (by rw [yX];omega) (by rw [yX];simp [maxLen];omega)
 have b6:=(A4.box.pure E5).ext X6 A4.n2
 refine ⟨s1',w6,hr6,x,rfl,b6.canW (by simp),?_⟩
 rintro _ rfl
 have E7:=Ext.setCell (w:=w6) (x.add 2) s1'.v
 rw [zP] at E7
 have z2:w0.heap.size≤w2.heap.size:=E2.size
 have z3:=X3.size
 have z4:=X4.size
 have z5:=E5.size
 have f6':∀b,s1'.blk b→so4.blk b∨w4.heap.size≤b:=fun b hb=>(f6 b hb).imp_right (fun h=>by omega)
 have nx:¬ s1'.blk x.block:=fun hh=>(f6' _ hh).elim A4.n2 (fun hh=>by have:=A4.box.lt;omega)
 have nv:∀b,sv.blk b→¬ s1'.blk b:=fun b hb hh=>(f6' b hh).elim (A4.n3 b hb) (fun hh=>by have:=A4.seen.lt hb;omega)
 have hfin:=hK s1' (w6.setCell (x.add 2) s1'.v)
 refine hfin ⟨b6.set 2 s1'.v,((A4.seen.pure E5).ext X6 A4.n3).ext E7 (fun b hb e=>A4.n1 (e▸hb)),?_,((A4.pool.pure E5).ext X6 (fun b hb=>(A4.n4 b hb).2.2)).ext E7 (fun b hb e=>(A4.n4 b hb).1 e),A4.n1,nx,nv,fun b hb=>⟨(A4.n4 b hb).1,(A4.n4 b hb).2.1,fun hh=>(f6' b hh).elim (A4.n4 b hb).2.2 (fun hh=>by have:=A4.pool.lt hb;omega)⟩⟩ ?_ ?_
 ·show Rws _ _ _ _ (tmr (s2.2++[t]))
  rw [show tmr (s2.2++[t])=tmr s2.2++[[.int .i64 t]] by simp [tmr]]
  exact R6.ext E7 (fun b hb e=>nx (e▸hb))
 ·have f34 : ∀ b, so4.blk b → b < w0.heap.size → so.blk b := fun b hb hlt => by
   rcases f4 b hb with h1 | h1
   ·exact (f3 b h1).elim id (fun h2=>by omega)
   ·omega
  have f33:∀b,so3.blk b→b<w0.heap.size→so.blk b:=fun b hb hlt=>(f3 b hb).elim id (fun h2=>by omega)
  refine ((((E2.mono (fun b _ hb=>.inr (.inl hb))).trans X3).trans' X4 (fun i hi hb=>?_)).trans' (E5.pure (F:=WF x sv so4)) (fun i hi hb=>?_)).trans' ((X6.mono (fun b _ hb=>.inr (.inr hb))).trans (E7.mono (fun b _ e=>.inl e))) (fun i hi (hb:WF x sv so4 i)=>?_)
  ·rcases hb with hb | hb | hb
   ·exact .inl hb
   ·exact .inr (.inl hb)
   ·exact .inr (.inr (f33 i hb hi))
  ·rcases hb with hb | hb | hb
   ·exact .inl hb
   ·exact .inr (.inl hb)
   ·exact .inr (.inr (f34 i hb hi))
  ·rcases hb with hb | hb | hb
   ·exact .inl hb
   ·exact .inr (.inl hb)
   ·exact .inr (.inr (f34 i hb hi))
 ·intro b hb
  rcases f6' b hb with h1 | h1
  ·rcases f4 b h1 with h2 | h2
   ·exact (f3 b h2).imp_right (fun h=>by omega)
   ·right;omega
  ·right;omega
theorem jJD (q:Addr) (t:Int) (w0:World) {L:Sp.Pool} {FR:NP} (hW:Sp.Wf L) (hP:qR w0 q L FR) :
  Calls prog 170 #[.pointer (some q),.int .i64 t] w0 (fun e w'=>∃r:Sl,e=.returned r.v∧RetO w0 23 1 (tmr (Sp.subs L t)) r w'):=by
 refine w_U3 _ _ w0 (fun r w'=>RetO w0 23 1 (tmr (Sp.subs L t)) r w') ?_
 unfold m_U3
 obtain ⟨v1,hv1,hv1l⟩:∃v1:Sl,w0.cell? q=some v1.v∧v1.len=L.length:=by
  obtain ⟨s1,s2,s3,h,_⟩:=hP;exact ⟨s1,h.box.cell0,by rw [h.r1.len];simp⟩
 have hL:=hW.ok.few
 refine ⟨q,rfl,v1,hv1,?_⟩
 rw [hv1l,IntWalk.i64_in _ (by omega),show ((L.length:Int)+1)=((L.length+1:Nat):Int) by omega]
 obtain ⟨w1,hr1,R1,E1⟩:=Rws.make (P:=prog) jQZ jNU (k:=.i64) (k':=.i64) (n:=L.length+1) (by omega) (by simp [maxLen];omega) w0
 rw [jQQ] at R1
 refine ⟨_,w1,hr1,?_⟩
 intro p2 w2 h2
 have E2:Pure w1 w2:=Ext.new h2
 have hp2:=h2.at_size
 have hnil:∀b,¬ Sl.nil.blk b:=fun b hb=>by obtain ⟨a,h,_⟩:=hb;cases h
 have hsv:∀b,(Sl.mk (some ⟨w0.heap.size,0,none⟩) (L.length+1) (L.length+1)).blk b→b=w0.heap.size:=by rintro b ⟨a,ha,rfl⟩;cases ha;rfl
 have z1:=E1.size
 have l1:w0.heap.size<w1.heap.size:=R1.lt ⟨_,rfl,rfl⟩
 have A2:WalkAt w2 p2 q L (fun _=>false,[]) FR ⟨some ⟨w0.heap.size,0,none⟩,L.length+1,L.length+1⟩ Sl.nil:=by
  refine ⟨Box.of_new h2,R1.pure E2,Rws.nil _ _ _,(hP.pure E1).pure E2,fun hb=>by have:=hsv _ hb;omega,hnil _,fun b _=>hnil b,fun b hb=>⟨fun e=>?_,fun hh=>?_,hnil b⟩⟩
  ·have:=hP.lt hb;omega
  ·have:=hsv _ hh;have:=hP.lt hb;omega
 refine (jJB p2 q hW (t.toNat+1) t w2 _ FR _ Sl.nil (by omega) A2 ⟨by simp,by simp,by simp,by simp⟩ (by simp)).mono ?_
 rintro _ w3 ⟨rfl,so,A3,X3,f3⟩
 refine ⟨rfl,so,A3.box.cell rfl,A3.out,fun b hb=>?_,(E1.trans E2).trans' X3 (fun i hi hb=>?_)⟩
 ·rcases f3 b hb with h | h
  ·exact (hnil b h).elim
  ·have:=E2.size;omega
 ·rcases hb with hb | hb | hb
  ·omega
  ·have:=hsv _ hb;omega
  ·exact hnil _ hb
end Go.Proofs
end
section
open Go Go.SE
namespace Go.Proofs
open Tryz
attribute [local irreducible] Calls CallsD
theorem jQR {s:Sl} {i:Int} {sz:Nat} {a:Addr} (h:At s i sz a):s.blk a.block:=by
 obtain ⟨_,_,b,hb,rfl⟩:=h;exact ⟨b,hb,(zP _ _).symm⟩
theorem jTX {w:World} {e:TypeId} {s:Sl} {A:List Int} (h:Rws w e 1 s (tmr A)) {k:Int} {j:Nat} (hk:k=j) (hj:j<A.length) :
  ∃a,At s k 1 a∧s.blk a.block∧zQ w a∧∀v,Rws (w.setCell a (.int .i64 v)) e 1 s (tmr (A.set j v))∧Ext s.blk w (w.setCell a (.int .i64 v)):=by
 have hset:∀v:Int,∃a,At s k 1 a∧(∀j,j<1→zQ w (a.add j))∧∀w',w'=storeRow w a [Value.int .i64 v]→Rws w' e 1 s ((tmr A).set j [.int .i64 v])∧Ext s.blk w w':=fun v=>h.set (i:=j) (by rw [yX];omega) rfl hk
 obtain ⟨a,hat,hw,_⟩:=hset 0
 have same:∀{x:Addr},At s k 1 x→x=a:=fun hx=>by
  obtain ⟨_,_,b1,hb1,rfl⟩:=hx;obtain ⟨_,_,b2,hb2,rfl⟩:=hat;rw [hb1] at hb2;cases hb2;rfl
 have h00:a.add 0=a:=by simp [Addr.add]
 refine ⟨a,hat,jQR hat,by have:=hw 0 (by omega);rwa [h00] at this,fun v=>?_⟩
 obtain ⟨x,hx,_,hx2⟩:=hset v
 have:=same hx;subst this
 have hst:storeRow w x [Value.int .i64 v]=w.setCell x (.int .i64 v):=by show w.setCell (x.add 0) (.int .i64 v)=_;rw [h00]
 obtain ⟨r1,r2⟩:=hx2 _ rfl
 rw [hst] at r1 r2
 have e0:(tmr A).set j [.int .i64 v]=tmr (A.set j v):=by simp [tmr,List.map_set]
 rw [e0] at r1
 exact ⟨r1,r2⟩
def Sp.opt (c:Bool) (f:Fld) (n:Sp.Node) (na nb:Nat):List UInt8:=if c then f.bytes n na nb else []
theorem jSD (n:Sp.Node) (na nb:Nat) (h1:1≤n.kind) (h9:n.kind≤9):(yQ n.kind).flatMap (Fld.bytes n na nb) =
  Sp.opt (s_F1 n.kind) .from_ n na nb++Sp.opt ((n.kind == 8) || (n.kind == 9)) .to_ n na nb++Sp.opt (n.kind == 2) .num n na nb++Sp.opt (n.kind == 3) .text n na nb++Sp.opt (decide (s_A n.kind≥1)) .fst n na nb++Sp.opt (s_A n.kind == 2) .snd n na nb:=by
 rw [uK]
 have:n.kind=1∨n.kind=2∨n.kind=3∨n.kind=4∨n.kind=5∨n.kind=6∨n.kind=7∨n.kind=8∨n.kind=9:=by omega
 rcases this with e | e | e | e | e | e | e | e | e <;> simp [e,yQ,Sp.opt,s_F1,Sp.shapeOf]
theorem jRY {n:Sp.Node} (h:s_A n.kind≥1):n.a∈Sp.zH n:=by
 rw [uK] at h;unfold Sp.zH;rcases Sp.yG n.kind with e | e | e <;> rw [e] at h ⊢ <;> simp at h ⊢
theorem jRX {n:Sp.Node} (h:s_A n.kind=2):n.b∈Sp.zH n:=by
 rw [uK] at h;unfold Sp.zH;rw [h];simp
structure TxSep (w0:World) (q:Addr) (FR:NP) (s1 r1:Sl) (B:Nat):Prop where
 lR:∀x,FR x→x<B
 lr:∀x,r1.blk x→x<B
 ls:∀x,s1.blk x→x<B∧w0.heap.size≤x∧¬ FR x∧¬ r1.blk x
 base:w0.heap.size≤B
structure TxAt (w0 w:World) (H:NP) (q:Addr) (L:Sp.Pool) (FR:NP) (s1 r1:Sl) (A xs:List Int) (B:Nat) (b:Sl) (bs:List UInt8):Prop where
 pool:qR w q L FR
 at_:Rws w 3 1 s1 (tmr A)
 subs:Rws w 23 1 r1 (tmr xs)
 rows:Rws w 5 1 b (byr bs)
 pure:Pure w0 w
 hB:∀x,H x→B≤x∧x<w.heap.size
 own:∀x,b.blk x→B≤x∧¬ H x
 lt:B≤w.heap.size
section
variable {w0 w w':World} {H H':NP} {q:Addr} {L:Sp.Pool} {FR:NP} {s1 r1:Sl} {A xs:List Int} {B:Nat} {b b':Sl} {bs bs':List UInt8}
theorem TxAt.hst (h:TxAt w0 w H q L FR s1 r1 A xs B b bs) (S:TxSep w0 q FR s1 r1 B) (hs:Hst w0 H w H' w'):TxAt w0 w' H' q L FR s1 r1 A xs B b bs:=by
 have hB':∀x,H' x→B≤x:=fun x hx=>(hs.new x hx).elim (fun h1=>(h.hB x h1).1) (fun h1=>by have:=h.lt;omega);have hv:∀x,b.blk x→¬ H' x:=hs.disj (fun x hx=>⟨h.rows.lt hx,(h.own x hx).2⟩);exact ⟨h.pool.ext hs.ext (fun x hx hh=>by have:=S.lR x hx;have:=hB' x hh;omega),h.at_.ext hs.ext (fun x hx hh=>by have:=S.ls x hx;have:=hB' x hh;omega),h.subs.ext hs.ext (fun x hx hh=>by have:=S.lr x hx;have:=hB' x hh;omega),h.rows.ext hs.ext hv,h.pure.hst hs,fun x hx=>⟨hB' x hx,hs.lt x hx⟩,fun x hx=>⟨(h.own x hx).1,hv x hx⟩,Nat.le_trans h.lt hs.ext.size⟩
theorem TxAt.call (h:TxAt w0 w H q L FR s1 r1 A xs B b bs) (hr:RetO w 5 1 (byr bs') b' w'):TxAt w0 w' H q L FR s1 r1 A xs B b' bs' :=
 ⟨h.pool.pure hr.pure,h.at_.pure hr.pure,h.subs.pure hr.pure,hr.rows,h.pure.trans hr.pure,fun x hx=>⟨(h.hB x hx).1,Nat.lt_of_lt_of_le (h.hB x hx).2 hr.pure.size⟩,fun x hx=>⟨Nat.le_trans h.lt (hr.own x hx),fun hh=>by have:=hr.own x hx;have:=(h.hB x hh).2;omega⟩,Nat.le_trans h.lt hr.pure.size⟩
end
section
variable (w0:World) (q:Addr) {L:Sp.Pool} (hW:Sp.Wf L) (hN:Sp.tI L) {FR:NP} {s1 r1:Sl} {A xs:List Int} {B:Nat} (S:TxSep w0 q FR s1 r1 B) (i1:Int) (n:Sp.Node) (na nb:Nat)
include S
theorem c_tx6 (hb:s_A n.kind=2→0≤n.b∧A[n.b.toNat]?=some (nb:Int)∧nb<65537) {H:NP} {w:World} {b:Sl} {bs:List UInt8} (h:TxAt w0 w H q L FR s1 r1 A xs B b bs) (hl:bs.length≤1000000000)
  (Kc:Sl→Int→NP→WP) (K:Sl→WP) (hK:∀b' H' w',TxAt w0 w' H' q L FR s1 r1 A xs B b' (bs++Sp.opt (s_A n.kind == 2) .snd n na nb)→Kc b' (IntKind.i64.wrap (i1+1)) H' w'):m_G_j6 s1 i1 n.kind n.b b w0 H w Kc K:=by
 unfold m_G_j6
 refine ⟨fun hc=>?_,fun hc=>?_⟩
 ·rw [hc] at hK
  obtain ⟨h0,hA,h2⟩:=hb (by simpa using hc)
  obtain ⟨hj,hA'⟩:=List.getElem?_eq_some_iff.1 hA
  obtain ⟨a,hat,_,hv⟩:=jBJ h.at_.lst hj
  rw [show ((n.b.toNat:Nat):Int)=n.b by omega] at hat
  refine ⟨a,hat,fun w15 hs=>?_⟩
  have h':=h.hst S hs
  obtain ⟨a',hat',_,hv'⟩:=jBJ h'.at_.lst hj
  rw [show ((n.b.toNat:Nat):Int)=n.b by omega] at hat'
  have:a'=a:=by
   obtain ⟨_,_,b1,hb1,rfl⟩:=hat;obtain ⟨_,_,b2,hb2,rfl⟩:=hat';rw [hb1] at hb2;cases hb2;rfl
  subst this
  refine ⟨_,hv',?_⟩
  rw [hA',vV (by omega)]
  refine (tF b bs nb w15 h'.rows.lst (by omega) (by omega)).mono ?_
  rintro _ w16 ⟨r,rfl,hr⟩
  exact ⟨r,rfl,hr.kept,hK _ _ _ (h'.call hr)⟩
 ·rw [hc] at hK
  simp only [Sp.opt,Bool.false_eq_true,if_false,List.append_nil] at hK
  exact fun w15 hs=>hK _ _ _ (h.hst S hs)
theorem c_tx5 (ha:s_A n.kind≥1→0≤n.a∧A[n.a.toNat]?=some (na:Int)∧na<65537) (hb:s_A n.kind=2→0≤n.b∧A[n.b.toNat]?=some (nb:Int)∧nb<65537) {H:NP} {w:World} {b:Sl} {bs:List UInt8} (h:TxAt w0 w H q L FR s1 r1 A xs B b bs) (hl:bs.length≤900000000)
  (Kc:Sl→Int→NP→WP) (K:Sl→WP) (hK:∀b' H' w',TxAt w0 w' H' q L FR s1 r1 A xs B b' (bs++Sp.opt (decide (s_A n.kind≥1)) .fst n na nb++Sp.opt (s_A n.kind == 2) .snd n na nb)→Kc b' (IntKind.i64.wrap (i1+1)) H' w'):m_G_j5 s1 i1 n.kind n.a n.b b w0 H w Kc K:=by
 unfold m_G_j5
 refine ⟨fun hc=>?_,fun hc=>?_⟩
 ·rw [hc] at hK
  obtain ⟨h0,hA,h2⟩:=ha (of_decide_eq_true hc)
  obtain ⟨hj,hA'⟩:=List.getElem?_eq_some_iff.1 hA
  obtain ⟨a,hat,_,hv⟩:=jBJ h.at_.lst hj
  rw [show ((n.a.toNat:Nat):Int)=n.a by omega] at hat
  refine ⟨a,hat,fun w15 hs=>?_⟩
  have h':=h.hst S hs
  obtain ⟨a',hat',_,hv'⟩:=jBJ h'.at_.lst hj
  rw [show ((n.a.toNat:Nat):Int)=n.a by omega] at hat'
  have:a'=a:=by
   obtain ⟨_,_,b1,hb1,rfl⟩:=hat;obtain ⟨_,_,b2,hb2,rfl⟩:=hat';rw [hb1] at hb2;cases hb2;rfl
  subst this
  refine ⟨_,hv',?_⟩
  rw [hA',vV (by omega)]
  refine (tF b bs na w15 h'.rows.lst (by omega) (by omega)).mono ?_
  rintro _ w16 ⟨r,rfl,hr⟩
  have:=vR (n:=na) (by omega)
  exact ⟨r,rfl,hr.kept,c_tx6 w0 q S i1 n na nb hb (h'.call hr) (by rw [List.length_append];omega) Kc K hK⟩
 ·rw [hc] at hK
  simp only [Sp.opt,Bool.false_eq_true,if_false,List.append_nil] at hK
  exact fun w15 hs=>c_tx6 w0 q S i1 n na nb hb (h.hst S hs) (by omega) Kc K hK
theorem c_tx4 (hx:n.text.size≤64) (ha:s_A n.kind≥1→0≤n.a∧A[n.a.toNat]?=some (na:Int)∧na<65537) (hb:s_A n.kind=2→0≤n.b∧A[n.b.toNat]?=some (nb:Int)∧nb<65537) {H:NP} {w:World} {b:Sl} {bs:List UInt8} (h:TxAt w0 w H q L FR s1 r1 A xs B b bs) (hl:bs.length≤800000000)
  (Kc:Sl→Int→NP→WP) (K:Sl→WP) (hK:∀b' H' w',TxAt w0 w' H' q L FR s1 r1 A xs B b' (bs++Sp.opt (n.kind == 3) .text n na nb++Sp.opt (decide (s_A n.kind≥1)) .fst n na nb++Sp.opt (s_A n.kind == 2) .snd n na nb)→Kc b' (IntKind.i64.wrap (i1+1)) H' w'):m_G_j4 s1 i1 n.kind n.text n.a n.b b w0 H w Kc K:=by
 unfold m_G_j4
 refine ⟨fun hc=>?_,fun hc=>?_⟩
 ·rw [hc] at hK
  refine (jNL b bs n.text w h.rows.lst (by omega) (by omega)).mono ?_
  rintro _ w16 ⟨r,rfl,hr⟩
  have:=vR (n:=n.text.size) (by omega)
  have e:n.text.data.toList.length=n.text.size:=Array.length_toList
  exact ⟨r,rfl,hr.kept,c_tx5 w0 q S i1 n na nb ha hb (h.call hr) (by rw [List.length_append,qH,List.length_append];omega) Kc K hK⟩
 ·rw [hc] at hK
  simp only [Sp.opt,Bool.false_eq_true,if_false,List.append_nil] at hK
  exact c_tx5 w0 q S i1 n na nb ha hb h (by omega) Kc K hK
theorem c_tx3 (hu:Sp.uI n.num) (hx:n.text.size≤64) (ha:s_A n.kind≥1→0≤n.a∧A[n.a.toNat]?=some (na:Int)∧na<65537) (hb:s_A n.kind=2→0≤n.b∧A[n.b.toNat]?=some (nb:Int)∧nb<65537) {H:NP} {w:World} {b:Sl} {bs:List UInt8} (h:TxAt w0 w H q L FR s1 r1 A xs B b bs) (hl:bs.length≤700000000)
  (Kc:Sl→Int→NP→WP) (K:Sl→WP) (hK:∀b' H' w',TxAt w0 w' H' q L FR s1 r1 A xs B b' (bs++Sp.opt (n.kind == 2) .num n na nb++Sp.opt (n.kind == 3) .text n na nb++Sp.opt (decide (s_A n.kind≥1)) .fst n na nb++Sp.opt (s_A n.kind == 2) .snd n na nb)→Kc b' (IntKind.i64.wrap (i1+1)) H' w'):m_G_j3 s1 i1 n.kind n.num n.text n.a n.b b w0 H w Kc K:=by
 unfold m_G_j3
 refine ⟨fun hc=>?_,fun hc=>?_⟩
 ·rw [hc] at hK
  obtain ⟨u0,u1⟩:=hu
  have e:n.num=((n.num.toNat:Nat):Int):=by omega
  rw [e]
  refine (tF b bs n.num.toNat w h.rows.lst (by omega) (by omega)).mono ?_
  rintro _ w16 ⟨r,rfl,hr⟩
  have:=vR (n:=n.num.toNat) (by omega)
  exact ⟨r,rfl,hr.kept,c_tx4 w0 q S i1 n na nb hx ha hb (h.call hr) (by rw [List.length_append];omega) Kc K hK⟩
 ·rw [hc] at hK
  simp only [Sp.opt,Bool.false_eq_true,if_false,List.append_nil] at hK
  exact c_tx4 w0 q S i1 n na nb hx ha hb h (by omega) Kc K hK
theorem c_tx2 (ht:0≤n.to∧n.to<16) (hu:Sp.uI n.num) (hx:n.text.size≤64) (ha:s_A n.kind≥1→0≤n.a∧A[n.a.toNat]?=some (na:Int)∧na<65537) (hb:s_A n.kind=2→0≤n.b∧A[n.b.toNat]?=some (nb:Int)∧nb<65537) {H:NP} {w:World} {b:Sl} {bs:List UInt8} (h:TxAt w0 w H q L FR s1 r1 A xs B b bs) (hl:bs.length≤600000000)
  (Kc:Sl→Int→NP→WP) (K:Sl→WP) (hK:∀b' H' w',TxAt w0 w' H' q L FR s1 r1 A xs B b' (bs++Sp.opt ((n.kind == 8) || (n.kind == 9)) .to_ n na nb++Sp.opt (n.kind == 2) .num n na nb++Sp.opt (n.kind == 3) .text n na nb++Sp.opt (decide (s_A n.kind≥1)) .fst n na nb++Sp.opt (s_A n.kind == 2) .snd n na nb)→Kc b' (IntKind.i64.wrap (i1+1)) H' w'):m_G_j2 s1 i1 n.kind n.to n.num n.text n.a n.b b w0 H w Kc K:=by
 unfold m_G_j2
 refine ⟨fun hc H4 w13 hs=>?_,fun hc H4 w13 hs=>?_⟩
 ·rw [hc] at hK
  have h':=h.hst S hs
  have e:n.to=((n.to.toNat:Nat):Int):=by omega
  rw [e,vV (by omega)]
  refine (tF b bs n.to.toNat w13 h'.rows.lst (by omega) (by omega)).mono ?_
  rintro _ w16 ⟨r,rfl,hr⟩
  have:=vR (n:=n.to.toNat) (by omega)
  exact ⟨r,rfl,hr.kept,c_tx3 w0 q S i1 n na nb hu hx ha hb (h'.call hr) (by rw [List.length_append];omega) Kc K hK⟩
 ·rw [hc] at hK
  simp only [Sp.opt,Bool.false_eq_true,if_false,List.append_nil] at hK
  exact c_tx3 w0 q S i1 n na nb hu hx ha hb (h.hst S hs) (by omega) Kc K hK
end
theorem jJA (q:Addr) (t:Int) (w0:World) {L:Sp.Pool} {FR:NP} (hW:Sp.Wf L) (hN:Sp.tI L) (hP:qR w0 q L FR) :
  Calls prog 132 #[.pointer (some q),.int .i64 t] w0 (fun e w'=>∃r:Sl,e=.returned r.v∧RetO w0 5 1 (byr (uG L t)) r w'):=by
 refine w_G _ _ w0 (fun r w'=>RetO w0 5 1 (byr (uG L t)) r w') ?_
 unfold m_G
 refine (jJD q t w0 hW hP).mono ?_
 rintro _ w1 ⟨r1,rfl,hr1⟩
 have P1:=hP.pure hr1.pure
 have hfew:=Sp.jAI hW t
 have hsub:∀u∈Sp.subs L t,Sp.inP L u=true:=fun u hu=>have h:=(Sp.jDS hW).1 hu;(Sp.Sub.le hW h.1 h.2).1
 have hord:=Sp.jGH hW t
 have hnd:=Sp.jCK hW t
 have htx:uG L t=textFrom L [] (Sp.subs L t):=rfl
 rw [htx]
 generalize hxs:Sp.subs L t=xs at *
 have hL:=hW.ok.few
 have hv1:∃v1:Sl,w1.cell? q=some v1.v∧v1.len=L.length:=by
  obtain ⟨sa,sb,sc,h,_⟩:=P1;exact ⟨sa,h.box.cell0,by rw [h.r1.len];simp⟩
 obtain ⟨v1,hv1,hv1l⟩:=hv1
 refine ⟨r1,rfl,hr1.kept,q,rfl,v1,hv1,?_⟩
 rw [hv1l,show IntKind.i64.wrap ((L.length:Int)+1)=((L.length+1:Nat):Int) by rw [i64 (by omega) (by omega)];omega]
 obtain ⟨w2, hmk, hR2, E2⟩ := Rws.make (P := prog) jCL (zr := [.int .i64 0]) (fun i z hi hz => by
   have h1:prog.info? 3=some t3:=by kernel_rfl
   rw [h1] at hi;cases hi;have h2:t3.zero=some (.int .i64 0):=by kernel_rfl
   rw [h2] at hz;cases hz;rfl) (k:=.i64) (k':=.i64) (n:=L.length+1) (by omega) (by simp only [maxLen];omega) w1
 refine ⟨_,w2,hmk,E2.keptP,?_⟩
 generalize hs1e:(Sl.mk (some ⟨w1.heap.size,0,none⟩) (L.length+1) (L.length+1))=s1 at *
 have hs1b:∀x,s1.blk x→x=w1.heap.size:=fun x hx=>by subst hs1e;obtain ⟨a,ha,rfl⟩:=hx;cases ha;rfl
 have hrep:List.replicate (L.length+1) [Value.int .i64 0]=tmr (List.replicate (L.length+1) 0):=by simp [tmr]
 rw [hrep] at hR2
 have z1:=hr1.pure.size
 have z2:=E2.size
 have hs1lt:∀x,s1.blk x→x<w2.heap.size:=fun x hx=>hR2.lt hx
 have hnil:∀b,¬ Sl.nil.blk b:=fun b hb=>by obtain ⟨a,h,_⟩:=hb;cases h
 have S:TxSep w0 q FR s1 r1 w2.heap.size:=⟨fun x hx=>by have:=hP.lt hx;omega,fun x hx=>by have:=hr1.rows.lt hx;omega,fun x hx=>⟨hs1lt x hx,by have:=hs1b x hx;omega,fun hh=>by have:=hP.lt hh;have:=hs1b x hx;omega,fun hh=>by have:=hr1.rows.lt hh;have:=hs1b x hx;omega⟩,by omega⟩
 have T2:TxAt w0 w2 None q L FR s1 r1 (List.replicate (L.length+1) 0) xs w2.heap.size Sl.nil []:=⟨P1.pure E2,hR2,hr1.rows.pure E2,Rws.nil _ _ _,hr1.pure.trans E2,fun x hx=>hx.elim,fun x hx=>(hnil x hx).elim,Nat.le_refl _⟩
 generalize w2.heap.size=B at *
 refine ⟨fun b i H w=>∃(j:Nat) (A:List Int),i=j∧j≤xs.length∧A.length=L.length+1∧(∀u∈xs.take j,A[u.toNat]?=some ((posOf (xs.take j) u:Nat):Int))∧TxAt w0 w H q L FR s1 r1 A xs B b (textFrom L [] (xs.take j)),fun _ i _=>((xs.length:Int) - i).toNat,⟨0,_,rfl,Nat.zero_le _,by simp,by simp,T2⟩,?_⟩
 rintro b _ Hl wl hst ⟨j,A,rfl,hj,hAl,hA,hT⟩
 unfold m_G_l1
 have hlen:r1.len=xs.length:=by rw [hT.subs.len,yX]
 refine ⟨fun hc=>?_,fun hc=>?_⟩
 ·have hc:=uY hlen hc
  have hzin:=hsub xs[j] (List.getElem_mem _)
  have hz:=Sp.vA.1 hzin
  have hsplit:xs=xs.take j++xs[j] :: xs.drop (j+1):=by rw [← List.drop_eq_getElem_cons hc,List.take_append_drop]
  have hko:=hord _ _ _ hsplit
  have hzn:xs[j] ∉ xs.take j:=by
   rw [hsplit] at hnd;have:=(List.nodup_append.1 hnd).2.2;exact fun h=>this _ h _ (.head _) rfl
  have htk:xs.take (j+1)=xs.take j++[xs[j]]:=List.take_succ_eq_append_getElem hc
  have hbs:=jCX hW hN (xs.take j) [] (fun u hu=>hsub u (List.mem_of_mem_take hu)) (by simp only [List.length_nil,List.length_take];omega)
  have hjl:(xs.take j).length=j:=by rw [List.length_take];omega
  rw [hjl] at hbs
  obtain ⟨k1,k9,f0,f1,t0,t1,x1⟩:=Sp.jGO hW hzin
  have hnum:=hN.node xs[j]
  obtain ⟨a3,hat3,_,hv3⟩:=jBJ hT.subs.lst hc
  have hnode:∃(v2:Sl) (a4:Addr),wl.cell? q=some v2.v∧FR q.block∧At v2 (IntKind.i64.wrap (xs[j] - 1)) 7 a4∧Row wl a4 (xC (Sp.nodeOf L xs[j]))∧FR a4.block:=by
   obtain ⟨sa,sb,sc,h,hF⟩:=hT.pool;obtain ⟨e,he,⟨a,g1,g2⟩,_⟩:=h.at1 hzin hW.ok;refine ⟨sa,a,h.box.cell0,(hF _).2 (.inl rfl),g1,?_,(hF _).2 (.inr (.inl (jQR g1)))⟩;have:Sp.nodeOf L xs[j]=e.node:=by simp only [Sp.nodeOf,he,Option.map_some,Option.getD_some]
   rw [this];exact g2
  obtain ⟨v2,a4,hv2,hFq,hat4,hrow4,hF4⟩:=hnode
  have hHR:∀x,FR x→¬ Hl x:=fun x hx hh=>by have:=S.lR x hx;have:=(hT.hB x hh).1;omega
  refine ⟨q,rfl,v2,hv2,hHR _ hFq,a3,hat3,_,hv3,fun hh=>by have:=S.lr _ (jQR hat3);have:=(hT.hB _ hh).1;omega,a4,hat4,_,_,_,_,_,_,_,hrow4,hHR _ hF4,a3,hat3,fun H2 w6 hs6=>?_⟩
  have T6:=hT.hst S hs6
  obtain ⟨a3',hat3',_,hv3'⟩:=jBJ T6.subs.lst hc
  have:a3'=a3:=by
   obtain ⟨_,_,b1,hb1,rfl⟩:=hat3;obtain ⟨_,_,b2,hb2,rfl⟩:=hat3';rw [hb1] at hb2;cases hb2;rfl
  subst this
  obtain ⟨a6,hat6,hb6,hw6,hset⟩:=jTX T6.at_ (k:=xs[j]) (j:=xs[j].toNat) (by omega) (by omega)
  refine ⟨_,hv3',a6,hat6,hw6,fun hh=>by have:=S.ls _ hb6;have:=(T6.hB _ hh).1;omega,?_⟩
  rintro w9 h9
  obtain ⟨hA9,X9⟩:=hset (j:Int)
  rw [← h9] at hA9 X9
  have T9:TxAt w0 w9 H2 q L FR s1 r1 (A.set xs[j].toNat j) xs B b (textFrom L [] (xs.take j)) :=
   ⟨T6.pool.ext X9 (fun x hx hh=>(S.ls x hh).2.2.1 hx),hA9,T6.subs.ext X9 (fun x hx hh=>(S.ls x hh).2.2.2 hx),T6.rows.ext X9 (fun x hx hh=>by have:=(T6.own x hx).1;have:=(S.ls x hh).1;omega),T6.pure.trans' X9 (fun i hi hh=>by have:=(S.ls i hh).2.1;omega),fun x hx=>⟨(T6.hB x hx).1,by have:=(T6.hB x hx).2;have:=X9.size;omega⟩,T6.own,by have:=T6.lt;have:=X9.size;omega⟩
  generalize hz':xs[j]=z at *
  have hnt:yP L (xs.take j) z=UInt8.ofNat (Sp.nodeOf L z).kind.toNat :: (yQ (Sp.nodeOf L z).kind).flatMap (Fld.bytes (Sp.nodeOf L z) (posOf (xs.take j) (Sp.nodeOf L z).a) (posOf (xs.take j) (Sp.nodeOf L z).b)):=rfl
  rw [jSD _ _ _ k1 k9] at hnt
  have hkin:∀u∈Sp.zH (Sp.nodeOf L z),0≤u∧(A.set z.toNat (j:Int))[u.toNat]?=some ((posOf (xs.take j) u:Nat):Int)∧posOf (xs.take j) u<65537:=fun u hu=>by
   have hm:=hko u hu;have hin:=Sp.vA.1 (hsub u (List.mem_of_mem_take hm));refine ⟨by omega,?_,by have:=tQ (xs.take j) u;rw [hjl] at this;omega⟩;rw [List.getElem?_set_ne (fun e=>hzn (by rw [show z=u by omega];exact hm))];exact hA u hm
  have hA':∀u∈xs.take (j+1),(A.set z.toNat (j:Int))[u.toNat]?=some ((posOf (xs.take (j+1)) u:Nat):Int):=fun u hu=>by
   rw [htk] at hu ⊢;rcases List.mem_append.1 hu with hu | hu
   ·rw [jHZ hu,List.getElem?_set_ne (fun e=>hzn (by have:=Sp.vA.1 (hsub u (List.mem_of_mem_take hu));rw [show z=u by omega];exact hu))];exact hA u hu
   ·rw [List.mem_singleton] at hu;subst hu;rw [jHY hzn,hjl,List.getElem?_set_self (by omega)]
  have hlA':(A.set z.toNat (j:Int)).length=L.length+1:=by rw [List.length_set];exact hAl
  have htxt:textFrom L [] (xs.take (j+1))=textFrom L [] (xs.take j)++yP L (xs.take j) z:=by rw [htk,tP,List.nil_append]
  rw [hnt] at htxt
  generalize hnz:Sp.nodeOf L z=n at *
  obtain ⟨kn,hkn⟩:∃kn:Nat,n.kind=kn:=⟨n.kind.toNat,by omega⟩
  intro p5 w10 h10
  have E10:Pure w9 w10:=Ext.new h10
  rw [hkn,tN] at h10
  obtain ⟨s2,w11,hr11,hR11,X11,hb11⟩:=(T9.rows.pure E10).append (P:=prog) (ty:=54) (c:=1) jBN (Box.of_newA h10).row rfl rfl (by rw [vP];omega) (by rw [vP];simp only [maxLen];omega)
  have z10:=E10.size
  have z11:=X11.size
  have nb:∀x,x<B→¬ b.blk x:=fun x hx hh=>by have:=(T9.own x hh).1;omega
  have T11:TxAt w0 w11 H2 q L FR s1 r1 (A.set z.toNat j) xs B s2 (textFrom L [] (xs.take j)++[UInt8.ofNat kn]) :=
   ⟨(T9.pool.pure E10).ext X11 (fun x hx hh=>nb x (S.lR x hx) hh),(T9.at_.pure E10).ext X11 (fun x hx hh=>nb x (S.ls x hx).1 hh),(T9.subs.pure E10).ext X11 (fun x hx hh=>nb x (S.lr x hx) hh),by rw [jGY];exact hR11,(T9.pure.trans E10).trans' X11 (fun i hi hh=>by have:=(T9.own i hh).1;have:=S.base;omega),fun x hx=>⟨(T9.hB x hx).1,by have:=(T9.hB x hx).2;omega⟩,fun x hx=>⟨(hb11 x hx).elim (fun h=>(T9.own x h).1) (fun h=>by have:=T9.lt;omega),(hb11 x hx).elim (fun h=>(T9.own x h).2) (fun h hh=>by have:=(T9.hB x hh).2;omega)⟩,by have:=T9.lt;omega⟩
  refine ⟨s2,w11,hr11,X11.kept (fun x hx hh=>(T9.own x hh).2 hx),?_⟩
  have hcn:n.kind.toNat=kn:=by omega
  rw [hcn] at htxt
  have hfin : ∀ (b' : Sl) (H' : NP) (w' : World), TxAt w0 w' H' q L FR s1 r1 (A.set z.toNat j) xs B b' (textFrom L [] (xs.take j) ++ [UInt8.ofNat kn] ++ Sp.opt (s_F1 n.kind) .from_ n (posOf (xs.take j) n.a) (posOf (xs.take j) n.b) ++ Sp.opt ((n.kind == 8) || (n.kind == 9)) .to_ n (posOf (xs.take j) n.a) (posOf (xs.take j) n.b) ++ Sp.opt (n.kind == 2) .num n (posOf (xs.take j) n.a) (posOf (xs.take j) n.b) ++ Sp.opt (n.kind == 3) .text n (posOf (xs.take j) n.a) (posOf (xs.take j) n.b) ++ Sp.opt (decide (s_A n.kind ≥ 1)) .fst n (posOf (xs.take j) n.a) (posOf (xs.take j) n.b) ++ Sp.opt (s_A n.kind == 2) .snd n (posOf (xs.take j) n.a) (posOf (xs.take j) n.b)) →
    (∃(j':Nat) (A':List Int),IntKind.i64.wrap ((j:Int)+1)=j'∧j'≤xs.length∧A'.length=L.length+1∧(∀u∈xs.take j',A'[u.toNat]?=some ((posOf (xs.take j') u:Nat):Int))∧TxAt w0 w' H' q L FR s1 r1 A' xs B b' (textFrom L [] (xs.take j')))∧((xs.length:Int) - IntKind.i64.wrap ((j:Int)+1)).toNat<((xs.length:Int) - (j:Int)).toNat:=fun b' H' w' h=>by
   refine ⟨⟨j+1,_,vQ hc (by omega),hc,hlA',hA',?_⟩,by rw [vQ hc (by omega)];exact jES hc⟩
   rw [htxt]
   simpa using h
  have hfstk:s_A n.kind≥1→0≤n.a∧(A.set z.toNat (j:Int))[n.a.toNat]?=some ((posOf (xs.take j) n.a:Nat):Int)∧posOf (xs.take j) n.a<65537:=fun h=>hkin _ (jRY h)
  have hsndk:s_A n.kind=2→0≤n.b∧(A.set z.toNat (j:Int))[n.b.toNat]?=some ((posOf (xs.take j) n.b:Nat):Int)∧posOf (xs.take j) n.b<65537:=fun h=>hkin _ (jRX h)
  refine ⟨fun hcn w12 hs12=>?_,fun hcn w12 hs12=>?_⟩
  ·have T12:=T11.hst S hs12
   have e:n.frm=((n.frm.toNat:Nat):Int):=by omega
   rw [e,vV (by omega)]
   refine (tF s2 _ n.frm.toNat w12 T12.rows.lst (by rw [List.length_append,List.length_singleton];omega) (by omega)).mono ?_
   rintro _ w16 ⟨r,rfl,hr⟩
   have:=vR (n:=n.frm.toNat) (by omega)
   refine ⟨r,rfl,hr.kept,?_⟩
   refine c_tx2 w0 q S j n (posOf (xs.take j) n.a) (posOf (xs.take j) n.b) ⟨t0,t1⟩ hnum x1 hfstk hsndk (T12.call hr) (by rw [List.length_append,List.length_append,List.length_singleton];omega) _ _ (fun b' H' w' h=>hfin b' H' w' ?_)
   rw [hcn];exact h
  ·have T12:=T11.hst S hs12
   refine c_tx2 w0 q S j n (posOf (xs.take j) n.a) (posOf (xs.take j) n.b) ⟨t0,t1⟩ hnum x1 hfstk hsndk T12 (by rw [List.length_append,List.length_singleton];omega) _ _ (fun b' H' w' h=>hfin b' H' w' ?_)
   rw [hcn]
   simp only [Sp.opt,Bool.false_eq_true,if_false,List.append_nil] at h ⊢
   exact h
 ·have hc:=tE hlen hj hc
  subst hc
  rw [List.take_length] at hT
  exact ⟨hT.rows,fun x hx=>by have:=(hT.own x hx).1;have:=S.base;omega,hT.pure⟩
theorem jFI (q:Addr) (t:Int) (w0:World) {L:Sp.Pool} {FR:NP} (hW:Sp.Wf L) (hN:Sp.tI L) (hP:qR w0 q L FR) :
  Calls prog 72 #[.pointer (some q),.int .i64 t] w0 (fun e w'=>∃r:Sl,∃n:Int,e=.returned (.tuple #[r.v,.int .i64 n])∧(n=(jDO L t).2∧RetO w0 5 1 (byr (jDO L t).1) r w')):=by
 refine w_F4 _ _ w0 (fun r n w'=>n=(jDO L t).2∧RetO w0 5 1 (byr (jDO L t).1) r w') ?_
 unfold m_F4
 have hnil:∀b,¬ Sl.nil.blk b:=fun b hb=>by obtain ⟨a,h,_⟩:=hb;cases h
 refine (uO q t w0 hP).mono ?_
 rintro _ _ ⟨_,rfl,rfl,rfl⟩
 refine ⟨_,rfl,fun hc=>?_,fun hc=>?_⟩
 ·have hin:Sp.inP L t=false:=by simpa using hc
  have e:jDO L t=([],51):=by unfold jDO;rw [hin];rfl
  rw [e]
  exact ⟨rfl,Rws.nil _ _ _,fun b hb=>(hnil b hb).elim,Ext.refl _⟩
 ·have hin:Sp.inP L t=true:=by simpa using hc
  refine (jJA q t _ hW hN hP).mono ?_
  rintro _ w4 ⟨r2,rfl,h⟩
  have hl:r2.len=(uG L t).length:=by rw [h.rows.len,vP]
  refine ⟨r2,rfl,fun hc=>?_,fun hc=>?_⟩
  ·have hc:=of_decide_eq_true hc
   have e:jDO L t=([],1):=by unfold jDO;rw [hin,if_pos rfl,if_pos (by omega)]
   rw [e]
   exact ⟨rfl,Rws.nil _ _ _,fun b hb=>(hnil b hb).elim,h.pure⟩
  ·have hc:=of_decide_eq_false hc
   have e:jDO L t=(uG L t,0):=by unfold jDO;rw [hin,if_pos rfl,if_neg (by omega)]
   rw [e]
   exact ⟨rfl,h⟩
end Go.Proofs
end
section
open Go Go.SE
namespace Go.Sp
theorem tG {L:Pool} (h:Wf L) (l:Letter):Wf (Go.Proofs.zX L l).2.2:=by
 unfold Go.Proofs.zX;split
 ·exact h
 ·exact of_wf h _
end Go.Sp
end
section
open Go Go.SE
namespace Go.Sp
open Go.Proofs
def tC (l:Letter):List UInt8×Int:=if (zX [] l).2.1≠0 then ([],(zX [] l).2.1) else jDO (zX [] l).2.2 (zX [] l).1
theorem xK {k f t u:Int} {x:ByteArray} {a:Tree} (h:uI u) (ha:NumT a):NumT (.mk k f t u x [a]):=.mk _ _ _ _ _ _ h (fun i hi=>by
 have:i=0:=by simpa using hi
 subst this;exact ha)
theorem xJ {k f t u:Int} {x:ByteArray} {a b:Tree} (h:uI u) (ha:NumT a) (hb:NumT b):NumT (.mk k f t u x [a,b]):=.mk _ _ _ _ _ _ h (fun i hi=>by
 have:i=0∨i=1:=by simp at hi;omega
 rcases this with rfl | rfl
 ·exact ha
 ·exact hb)
theorem qY {k f t u:Int} {x:ByteArray} (h:uI u):NumT (.mk k f t u x []):=.mk _ _ _ _ _ _ h (fun i hi=>by simp at hi)
theorem jDK:uI 0:=⟨by decide,by decide⟩
theorem jPD {c:Int} {x:ByteArray} (h:uI c):NumT (vX c x):=xJ jDK (qY jDK) (xJ jDK (qY h) (qY jDK))
theorem jKF {l:Letter} (h:uI l.c) (a b:Bool):NumT (vK l a b):=by
 unfold vK;have hd:=jPD (x:=l.text) h;split;· exact xK jDK hd
 split;· exact xK jDK hd
 split;· exact xK jDK (xJ jDK (qY jDK) (qY h))
 split;· exact xK jDK (xJ jDK (qY jDK) (xJ jDK (xK jDK hd) (xK jDK hd)))
 split;· exact xK jDK (xJ jDK (qY jDK) (qY h))
 split;· exact xK jDK (xJ jDK (qY jDK) hd)
 exact xJ jDK (qY jDK) (qY h)
theorem tS {L:Pool} (hN:tI L) {l:Letter} (h:uI l.c):tI (zX L l).2.2:=by
 unfold zX;split
 ·exact hN
 ·exact hN.of (jKF h _ _)
end Go.Sp
end
