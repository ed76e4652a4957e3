import Derived.Test.YtcldldjildmdlaaGreatPa0
import Derived.Laws.IdiomStrings
import Derived.Test.YtcldldjildmdlaaGreatProg
import Derived.KernelRfl
import Init.Data.Nat
import Derived.Test.YtcldldjildmdlaaGreatPa2
import Derived.Recover
section
open Go Go.SE
namespace Go.SE
def byr (bs:List UInt8):List (List Value):=bs.map fun b=>[.int .u8 (b.toNat:Int)]
theorem byr_len (bs:List UInt8):(byr bs).length=bs.length:=by simp [byr]
theorem byr_one (bs:List UInt8):∀q∈byr bs,q.all oneCell=true:=by intro q hq;obtain ⟨t,_,rfl⟩:=List.mem_map.1 hq;rfl
theorem byr_sz (bs:List UInt8):∀q∈byr bs,q.length=1:=by intro q hq;obtain ⟨t,_,rfl⟩:=List.mem_map.1 hq;rfl
theorem byr_flat (bs:List UInt8):(byr bs).flatten=bs.map fun b=>Value.int .u8 (b.toNat:Int):=by
 induction bs with
 | nil=>rfl
 | cons b bs ih=>simp only [byr,List.map_cons,List.flatten_cons] at ih ⊢;rw [ih];rfl
theorem byr_app (a b:List UInt8):byr (a++b)=byr a++byr b:=by simp [byr]
theorem by_nth {S:NP} {w:World} {s:Sl} {bs:List UInt8} (h:Lst S w 1 s (byr bs)) {j:Nat} (hj:j<bs.length):∃a,At s j 1 a∧S a.block∧w.cell? a=some (.int .u8 (bs[j].toNat:Int)):=by
 obtain ⟨a,h1,h2,h3⟩:=h.at_ j (by simpa [byr] using hj)
 exact ⟨a,h1,h2,row_cell (by simpa [byr] using h3)⟩
theorem wrap_u8 (n:Nat):IntKind.u8.wrap (n:Int)=((UInt8.ofNat n).toNat:Int):=by
 rw [UInt8.toNat_ofNat'];simp [IntKind.wrap,IntKind.bits,IntKind.signed]
theorem run_str {P : Program} {src dst e : TypeId} (hs : P.underlying src = some (.slice e)) (he : P.underlying e = some (.int .u8)) (hd : P.underlying dst = some .string) {S : NP} {w : World} {s : Sl} {bs : List UInt8} (h : Lst S w 1 s (byr bs)) :
  (convert src dst s.v).run P w=.ok (.string ⟨bs.toArray⟩) w:=by
 have hl:s.len=bs.length:=by rw [h.len,byr_len]
 cases ha:s.a with
 | none =>
  have hb:bs=[]:=by
   cases bs with
   | nil=>rfl
   | cons b bs=>obtain ⟨_,⟨_,_,p,hp,_⟩,_⟩:=by_nth h (j:=0) (by simp);rw [ha] at hp;cases hp
  subst hb
  have:s.v=.slice none 0 s.cap:=by unfold Sl.v;rw [ha,hl];rfl
  rw [this,run_convert_bytes_string w src dst e none 0 s.cap hs he hd];rfl
 | some p =>
  have:s.v=.slice (some p) bs.length s.cap:=by unfold Sl.v;rw [ha,hl]
  rw [this]
  refine run_convert_bytes_back w src dst e p s.cap bs hs he hd fun j hj=>?_
  obtain ⟨a,⟨_,_,b,hb,rfl⟩,_,hc⟩:=by_nth h hj
  rw [ha] at hb;cases hb
  simpa using hc
section
variable {P:Program} {t u e ty:TypeId} {w:World}
theorem firstCells_str (b:ByteArray):(Builtin.firstCells 1 b.size (.string b)).run P w=.ok (b.data.map fun x=>Value.int .u8 (x.toNat:Int)) w:=by
 have hx:(Array.map (fun b:UInt8=>Value.int IntKind.u8 (b.toNat:Int)) b.data).extract 0 b.size=Array.map (fun b:UInt8=>Value.int IntKind.u8 (b.toNat:Int)) b.data:=by
  have hs:b.size=(Array.map (fun b:UInt8=>Value.int IntKind.u8 (b.toNat:Int)) b.data).size:=by rw [Array.size_map];rfl
  rw [hs,Array.extract_size]
 simp [Builtin.firstCells,hx]
theorem run_append_none_str (T:SlType P t e 1 1) (hu:P.underlying u=some .string) (s:Sl) (hc:s.len≤s.cap) (b:ByteArray) (hb:b.size=0):(Builtin.append_ #[t,u] ty #[s.v,.string b]).run P w=.ok s.v w:=by
 obtain ⟨a,n,c⟩:=s
 simp only at hc
 have hbd:b=⟨#[]⟩:=by cases b;simp only [ByteArray.size] at hb;congr;exact Array.eq_empty_of_size_eq_zero hb
 subst hbd
 cases a <;> simp [Builtin.append_,Sl.v,run_underlying T.ht,run_underlying hu,T.sizeOf,Builtin.lenOf,Builtin.firstCells,storeCells,hc,ByteArray.size]
theorem Rws.appendStr (T : SlType P t e 1 1) (hu : P.underlying u = some .string) {s : Sl} {rs : List (List Value)} (h : Rws w e 1 s rs) (b : ByteArray) (hb : rs.length + b.size ≤ 140737488355328) (hm : rs.length + b.size ≤ maxLen) :
  ∃s' w',(Builtin.append_ #[t,u] ty #[s.v,.string b]).run P w=.ok s'.v w'∧Rws w' e 1 s' (rs++byr b.data.toList)∧Ext s.blk w w'∧(∀b,s'.blk b→s.blk b∨w.heap.size≤b):=by
 obtain ⟨i,z,hi,hz,hsz,hby,hzs⟩:=T.hi
 have hbl:b.data.toList.length=b.size:=by rw [Array.length_toList];rfl
 by_cases h0:b.size=0
 ·have hc : s.len ≤ s.cap := by
   rcases h.own with ⟨rfl,_⟩ | ⟨g,cur,_,_,hc,_⟩
   ·exact Nat.le_refl _
   ·rw [h.len];exact hc
  have:b.data.toList=[]:=List.length_eq_zero_iff.1 (by omega)
  rw [this]
  exact ⟨s,w,run_append_none_str T hu s hc b h0,by simpa [byr] using h,Ext.refl w,fun b hb=>.inl hb⟩
 have hml:rs.length+b.size≤9223372036854775807:=by simp only [maxLen] at hm;omega
 have hfl:=flatten_len h.each
 have hql:(byr b.data.toList).length=b.size:=by rw [byr_len,hbl]
 have heach:∀q∈rs++byr b.data.toList,q.length=1:=fun q hq=>(List.mem_append.1 hq).elim (h.each q) (byr_sz _ q)
 have hfq:(b.data.map (fun x=>Value.int .u8 (x.toNat:Int))).toList=(byr b.data.toList).flatten:=by rw [byr_flat];simp
 have hsv:(b.data.map (fun x=>Value.int .u8 (x.toNat:Int))).size=b.size:=by rw [Array.size_map];rfl
 rcases h.own with ⟨rfl,rfl⟩ | ⟨g,cur,ha,hg,hcap,hcm,hcs,htake⟩
 ·simp only [List.length_nil,Nat.zero_add] at hb hml hm
  have hrun:=run_append_nil_string (P:=P) w t u ty e i z T.ht hu hi hz b (by omega) (by omega) (by rw [hby];omega)
  have hgr:=Rws.grown (w:=w) (e:=e) (sz:=1) (rs:=byr b.data.toList) (byr_sz _) (cur:=b.data.map (fun x=>Value.int .u8 (x.toNat:Int))) (by rw [hzs]) hfq (cap:=grownCap w b.size 0 e) (by rw [hql];exact grownCap_ge w _ 0 e) (grownCap_le_maxLen w _ 0 e hm)
  rw [hql] at hgr
  exact ⟨⟨some ⟨w.heap.size,0,none⟩,b.size,grownCap w b.size 0 e⟩,_,hrun,by simpa using hgr,⟨rfl,rfl,rfl,by simp,fun b hb _=>alloc_old' w.drew _ b hb⟩,fun b hb=>by obtain ⟨a,ha,rfl⟩:=hb;cases ha;right;exact Nat.le_refl _⟩
 ·have hs':s.v=.slice (some ⟨g,0,none⟩) rs.length s.cap:=by unfold Sl.v;rw [ha,h.len]
  by_cases hroom:rs.length+b.size≤s.cap
  ·have hfit:rs.length+(byr b.data.toList).flatten.length≤cur.size:=by rw [flatten_len (byr_sz _),hql,hcs];omega
   have h1':∀u∈(byr b.data.toList).flatten,u.oneCell'=true:=fun u hu=>by
    rw [byr_flat] at hu
    obtain ⟨x,_,rfl⟩:=List.mem_map.1 hu;rfl
   have hst:=run_storeCells_at P g rs.length e (byr b.data.toList).flatten 0 cur w hg (by simpa using hfit) h1'
   have hrun:(Builtin.append_ #[t,u] ty #[s.v,.string b]).run P w=.ok (.slice (some ⟨g,0,none⟩) (rs.length+b.size) s.cap) (w.setRow g (cur.toList.take rs.length++(byr b.data.toList).flatten++cur.toList.drop (rs.length+(byr b.data.toList).flatten.length)).toArray):=by
    rw [hs']
    simp only [Nat.add_zero] at hst
    have hf:=firstCells_str (P:=P) (w:=w) b
    rw [byr_flat] at hst ⊢
    simp [Builtin.append_,run_underlying T.ht,run_underlying hu,T.sizeOf,Builtin.lenOf,hroom,hf,Addr.add_lit,hst]
   refine ⟨⟨some ⟨g,0,none⟩,rs.length+b.size,s.cap⟩,_,hrun,⟨heach,by simp [hql],.inr ⟨g,_,rfl,setRow_heap w g cur _ e _ hg,by simpa [hql] using hroom,hcm,?_,?_⟩⟩,⟨rfl,rfl,rfl,by simp,fun b hb hf=>setRow_other w g b _ (fun e=>hf ⟨_,ha,e.symm⟩)⟩,fun b hb=>by obtain ⟨a,ha',rfl⟩:=hb;cases ha';exact .inl ⟨_,ha,rfl⟩⟩
   ·simp only [List.size_toArray,List.length_append,List.length_take,List.length_drop,Array.length_toList]
    omega
   ·simp only [Nat.mul_one] at htake hfl ⊢
    rw [htake,List.flatten_append,List.length_append,hql]
    rw [flatten_len (byr_sz _),hql,← hfl]
    simp only [Nat.mul_one]
    rw [show rs.flatten.length+b.size=(rs.flatten++(byr b.data.toList).flatten).length by rw [List.length_append,flatten_len (byr_sz _),hql];omega]
    exact List.take_left
  ·have holds : ∀ j u, rs.flatten[j]? = some u → w.cell? ((⟨g, 0, none⟩ : Addr).add j) = some u := fun j u hu => by
    have hadd:(⟨g,0,none⟩:Addr).add j=⟨g,j,none⟩:=by unfold Addr.add;split <;> simp_all
    rw [hadd,cell_of_row w g j cur e (0,0) hg]
    rw [← htake,List.getElem?_take] at hu
    split at hu
    ·simpa using hu
    ·cases hu
   have hfit:=growslice_fits (need:=rs.length+b.size) (old:=s.cap) (bytes:=1) (by omega) (by omega)
   have hgr:=Rws.grown (w:=w) (e:=e) (sz:=1) (rs:=rs++byr b.data.toList) heach (cur:=rs.flatten.toArray++b.data.map (fun x=>Value.int .u8 (x.toNat:Int))) (by rw [hzs]) (by simp [← hfq]) (cap:=grownCap w (rs.length+b.size) s.cap e) (by rw [List.length_append,hql];exact grownCap_ge w _ s.cap e) (grownCap_le_maxLen w _ _ e hm)
   have hrun:(Builtin.append_ #[t,u] ty #[s.v,.string b]).run P w=.ok (.slice (some ⟨w.heap.size,0,none⟩) (rs.length+b.size) (grownCap w (rs.length+b.size) s.cap e)) (w.drew.alloc (.cells (rs.flatten.toArray++b.data.map (fun x=>Value.int .u8 (x.toNat:Int))++Builtin.zeroCells z.cells (grownCap w (rs.length+b.size) s.cap e - (rs.length+b.size))) e)):=by
    rw [hs']
    have hn:¬ (rs.length+b.size≤s.cap):=by omega
    have h63':¬ (9223372036854775807<((rs.length:Int)+(b.size:Int))):=by omega
    have h48':¬ (281474976710656<Builtin.nextslicecap (rs.length+b.size) s.cap*i.bytes):=by rw [hby];omega
    have hfo:=run_firstCells_some (P:=P) w.drew i.size rs.length ⟨g,0,none⟩ rs.length s.cap rs.flatten (by rw [hsz];exact hfl) (by simpa using holds)
    have hf:=firstCells_str (P:=P) (w:=w.drew) b
    rw [hsz] at hfo
    simp [Builtin.append_,run_underlying T.ht,run_underlying hu,sizeOf,typeInfo,zeroValue,hi,hz,Builtin.lenOf,hn,h63',h48',Question.forced,hf,hfo,newRow,grownCap,hsz]
    try (congr 2;apply Array.ext';simp [List.append_assoc])
   rw [List.length_append,hql] at hgr
   exact ⟨⟨some ⟨w.heap.size,0,none⟩,rs.length+b.size,grownCap w (rs.length+b.size) s.cap e⟩,_,hrun,hgr,⟨rfl,rfl,rfl,by simp,fun b hb _=>alloc_old' w.drew _ b hb⟩,fun b hb=>by obtain ⟨a,ha,rfl⟩:=hb;cases ha;right;exact Nat.le_refl _⟩
end
section
variable {P:Program} {w:World} {t:TypeId}
set_option maxRecDepth 4000 in
theorem or128:∀m:Fin 256,m.val ||| 128=m.val % 128+128:=by decide
theorem run_or128 (n:Nat):(Go.binOp .or t (.int .u8 (IntKind.u8.wrap (n:Int))) (.int .u8 128)).run P w=.ok (.int .u8 ((UInt8.ofNat (n % 128+128)).toNat:Int)) w:=by
 have h:IntKind.u8.wrap ((BitVec.ofInt IntKind.u8.bits (IntKind.u8.wrap (n:Int)) ||| BitVec.ofInt IntKind.u8.bits 128).toNat:Int)=((UInt8.ofNat (n % 128+128)).toNat:Int):=by
  have e1:(BitVec.ofInt IntKind.u8.bits (IntKind.u8.wrap (n:Int))).toNat=n % 256:=by
   rw [wrap_u8,UInt8.toNat_ofNat',BitVec.toNat_ofInt]
   simp [IntKind.bits]
   omega
  have e2:(BitVec.ofInt IntKind.u8.bits 128).toNat=128:=by decide
  rw [BitVec.toNat_or,e1,e2,or128 ⟨n % 256,Nat.mod_lt _ (by omega)⟩,wrap_u8]
  simp only [UInt8.toNat_ofNat']
  omega
 show ((pure (Value.int .u8 _):Sem Value)).run P w=_
 rw [h];rfl
theorem run_shr7 (n:Nat):(Go.binOp .shr t (.int .u64 (n:Int)) (.int .u64 7)).run P w=.ok (.int .u64 ((n / 128:Nat):Int)) w:=by
 simp [Go.binOp,go_sem,IntKind.bits]
theorem run_and127 (c:Nat) (h:c<256):(Go.binOp .and t (.int .u8 (c:Int)) (.int .u8 127)).run P w=.ok (.int .u8 ((c % 128:Nat):Int)) w:=by
 have hr:IntKind.u8.wrap ((BitVec.ofInt IntKind.u8.bits (c:Int) &&& BitVec.ofInt IntKind.u8.bits 127).toNat:Int)=((c % 128:Nat):Int):=by
  have e1:(BitVec.ofInt IntKind.u8.bits (c:Int)).toNat=c:=by
   rw [BitVec.toNat_ofInt];simp [IntKind.bits];omega
  have e2:(BitVec.ofInt IntKind.u8.bits 127).toNat=2 ^ 7 - 1:=by decide
  rw [BitVec.toNat_and,e1,e2,Nat.and_two_pow_sub_one_eq_mod,wrap_u8]
  simp only [UInt8.toNat_ofNat']
  omega
 show ((pure (Value.int .u8 _):Sem Value)).run P w=_
 rw [hr];rfl
theorem wrap_u64 {n:Nat} (h:n<18446744073709551616):IntKind.u64.wrap (n:Int)=(n:Int):=by
 simp [IntKind.wrap,IntKind.bits,IntKind.signed];omega
theorem run_shl (x k:Nat) (hk:k<64) (h:x*2 ^ k<18446744073709551616):(Go.binOp .shl t (.int .u64 (x:Int)) (.int .i64 (k:Int))).run P w=.ok (.int .u64 ((x*2 ^ k:Nat):Int)) w:=by
 have hr:IntKind.u64.wrap ((x:Int)*2 ^ min (k:Int).toNat IntKind.u64.bits)=((x*2 ^ k:Nat):Int):=by
  have:min (k:Int).toNat IntKind.u64.bits=k:=by simp [IntKind.bits];omega
  rw [this,← wrap_u64 h];simp
 have h0:¬ ((k:Int)<0):=by omega
 show (Op.shift .shl .u64 (x:Int) .i64 (k:Int)).run P w=_
 unfold Op.shift
 rw [if_neg h0]
 show ((pure (Value.int .u64 (IntKind.u64.wrap ((x:Int)*2 ^ min (k:Int).toNat IntKind.u64.bits))):Sem Value)).run P w=_
 rw [hr];rfl
theorem run_or64 (x y:Nat) (hx:x<18446744073709551616) (hy:y<18446744073709551616):(Go.binOp .or t (.int .u64 (x:Int)) (.int .u64 (y:Int))).run P w=.ok (.int .u64 ((x ||| y:Nat):Int)) w:=by
 have hr:IntKind.u64.wrap ((BitVec.ofInt IntKind.u64.bits (x:Int) ||| BitVec.ofInt IntKind.u64.bits (y:Int)).toNat:Int)=((x ||| y:Nat):Int):=by
  have e (z:Nat) (hz:z<18446744073709551616):(BitVec.ofInt IntKind.u64.bits (z:Int)).toNat=z:=by
   rw [BitVec.toNat_ofInt];simp [IntKind.bits];omega
  rw [BitVec.toNat_or,e x hx,e y hy,wrap_u64 (Nat.or_lt_two_pow (n:=64) hx hy)]
 show ((pure (Value.int .u64 _):Sem Value)).run P w=_
 rw [hr];rfl
theorem or_add {x y k:Nat} (h:x<2 ^ k):x ||| (y*2 ^ k)=x+y*2 ^ k:=by
 have:=Nat.shiftLeft_add_eq_or_of_lt h y
 rw [Nat.shiftLeft_eq] at this
 rw [Nat.or_comm,← this,Nat.add_comm]
end
theorem Lst.sub {P : Program} {t e : TypeId} {sz bytes : Nat} {S : NP} (T : SlType P t e sz bytes) {w : World} {s : Sl} {rs : List (List Value)} (h : Lst S w sz s rs) (hcap : s.len ≤ s.cap) {k : IntKind} {lo n : Nat} (hn : lo + n ≤ rs.length) :
  ∃s':Sl,(Instr.sliceAt t s.v (some (.int k (lo:Int))) (some (.int k ((lo+n:Nat):Int))) none).run P w=.ok s'.v w∧Lst S w sz s' ((rs.drop lo).take n):=by
 have h1:((lo+n:Nat):Int)≤(s.cap:Int):=by rw [h.len] at hcap;omega
 have h2:(lo:Int)≤((lo+n:Nat):Int):=by omega
 refine ⟨⟨if s.cap=lo then s.a else s.a.map (·.add (lo*sz)),n,s.cap - lo⟩,?_,⟨by simp;omega,fun i hi=>?_⟩⟩
 ·simp [Instr.sliceAt,Instr.slice,Sl.v,run_underlying T.ht,Instr.sliceBounds,Instr.sliceBound,asIntOf,T.sizeOf]
  rw [if_pos (by omega),if_pos (by omega),show ((lo:Int)+(n:Int)).toNat - lo=n by omega]
 ·have hi':lo+i<rs.length:=by simp at hi;omega
  obtain ⟨a,⟨_,hlt,p,hp,rfl⟩,hS,hr⟩:=h.at_ (lo+i) hi'
  refine ⟨_,⟨by omega,by simp at hi ⊢;omega,p.add (lo*sz),?_,rfl⟩,?_,?_⟩
  ·rw [if_neg (by rw [h.len] at hcap;omega),hp];rfl
  ·simpa [add_block] using hS
  ·have : (p.add (lo * sz)).add ((i : Int).toNat * sz) = p.add (((lo + i : Nat) : Int).toNat * sz) := by
    rw [add_add,Int.toNat_natCast,Int.toNat_natCast,Nat.add_mul]
   rw [this,List.getElem_take,List.getElem_drop];exact hr
end Go.SE
end
section
open Go Go.SE
open Go.IntKind renaming i64 → q6
namespace Go.Proofs
set_option maxRecDepth 100000
set_option maxHeartbeats 4000000
attribute [local irreducible] wpL wpX opE wpE Calls
end Go.Proofs
end
section
open Go Go.SE
namespace Go.Proofs
attribute [local irreducible] Calls
def tmr (ts:List Int):List (List Value):=ts.map fun t=>[.int .i64 t]
theorem tmr_len (ts:List Int):(tmr ts).length=ts.length:=by simp [tmr]
theorem slT_tm:SlType Tryz.prog 52 30 1 8:=by
 refine ⟨Tryz.underlying52,⟨Tryz.t30,_,by kernel_rfl,(by kernel_rfl:Tryz.t30.zero=some (.int .i64 0)),by kernel_rfl,by kernel_rfl,rfl⟩,by omega⟩
structure RetO (w:World) (e:TypeId) (sz:Nat) (rs:List (List Value)) (s:Sl) (w':World):Prop where
 rows:Rws w' e sz s rs
 own:∀b,s.blk b→w.heap.size≤b
 pure:Pure w w'
theorem RetO.kept {w:World} {H:NP} {e:TypeId} {sz:Nat} {rs:List (List Value)} {s:Sl} {w':World} (h:RetO w e sz rs s w'):Kept H w w':=h.pure.keptP
theorem tm_nth {S:NP} {w:World} {s:Sl} {ts:List Int} (h:Lst S w 1 s (tmr ts)) {j:Nat} (hj:j<ts.length):∃a,At s j 1 a∧S a.block∧w.cell? a=some (.int .i64 ts[j]):=by
 obtain ⟨a,h1,h2,h3⟩:=h.at_ j (by simpa [tmr] using hj)
 exact ⟨a,h1,h2,row_cell (by simpa [tmr] using h3)⟩
theorem run_equalIn_slnil {P:Program} (w:World) (d:Nat) {t e:TypeId} (a:Option Addr) (l c:Nat) (h:P.underlying t=some (.slice e)):(Op.equalIn (d+1) t (.slice a l c) (.slice none 0 0)).run P w=.ok a.isNone w:=by
 cases a <;> simp [Op.equalIn,run_underlying h]
theorem run_eql_slnil {P:Program} (w:World) {t e:TypeId} (a:Option Addr) (l c:Nat) (h:P.underlying t=some (.slice e)):(Go.binOp .eql t (.slice a l c) (.slice none 0 0)).run P w=.ok (.bool a.isNone) w:=by
 simp only [Go.binOp]
 simp [Op.equal,Op.maxDepth,run_equalIn_slnil w 9999 a l c h]
end Go.Proofs
end
section
open Nat
namespace Go.Proofs
def varint (n:Nat):List UInt8:=if h:n<128 then [UInt8.ofNat n] else UInt8.ofNat (n % 128+128) :: varint (n / 128)
theorem varint_lt {n:Nat} (h:n<128):varint n=[UInt8.ofNat n]:=by rw [varint,dif_pos h]
theorem varint_ge {n:Nat} (h:128≤n):varint n=UInt8.ofNat (n % 128+128) :: varint (n / 128):=by rw [varint,dif_neg (by omega)]
theorem varint_len (k:Nat):∀n,n<128 ^ (k+1)→(varint n).length≤k+1:=by
 induction k with
 | zero=>intro n h;rw [varint_lt (by simpa using h)];simp
 | succ k ih =>
  intro n h
  by_cases h1:n<128
  ·rw [varint_lt h1];simp
  ·rw [varint_ge (by omega),List.length_cons]
   have:=ih (n / 128) (by rw [Nat.div_lt_iff_lt_mul (by omega)];rw [Nat.pow_succ] at h;exact h)
   omega
theorem varint_le10 {n:Nat} (h:n<18446744073709551616):(varint n).length≤10:=varint_len 9 n (by omega)
def textBytes (s:ByteArray):List UInt8:=varint s.size++s.data.toList
def rdNum:Nat→Nat→List UInt8→Except Nat (Nat×Nat)
 | _,_,[]=>.error 3
 | i,n,c :: l =>
  if i=9∧1<c.toNat then .error 11
  else if c.toNat<128 then (if c.toNat=0∧0<i then .error 10 else .ok (n+c.toNat*128 ^ i,i+1))
  else rdNum (i+1) (n+c.toNat % 128*128 ^ i) l
theorem rdNum_cons (i n : Nat) (c : UInt8) (l : List UInt8) : rdNum i n (c :: l) = (if i = 9 ∧ 1 < c.toNat then .error 11
  else if c.toNat<128 then (if c.toNat=0∧0<i then .error 10 else .ok (n+c.toNat*128 ^ i,i+1))
  else rdNum (i+1) (n+c.toNat % 128*128 ^ i) l):=rfl
structure Rd where
 at_:Nat
 err:Nat
 spot:Nat
def rNum (bs:List UInt8) (r:Rd):Nat×Rd :=
 if r.err=0 then match rdNum 0 0 (bs.drop r.at_) with
  | .ok (n,k)=>(n,⟨r.at_+k,0,r.spot⟩)
  | .error x=>(0,⟨r.at_,x,r.at_⟩)
 else (0,r)
def rByte (bs:List UInt8) (r:Rd):Nat×Rd :=
 if r.err=0 then (if h:r.at_<bs.length then (bs[r.at_].toNat,⟨r.at_+1,0,r.spot⟩) else (0,⟨r.at_,3,r.at_⟩))
 else (0,r)
def rText (bs:List UInt8) (most:Nat) (r:Rd):List UInt8×Rd :=
 if r.err=0 then match rdNum 0 0 (bs.drop r.at_) with
  | .ok (n,k)=>if most<n then ([],⟨r.at_,1,r.at_⟩) else if bs.length<r.at_+k+n then ([],⟨r.at_,3,r.at_⟩) else ((bs.drop (r.at_+k)).take n,⟨r.at_+k+n,0,r.spot⟩)
  | .error x=>([],⟨r.at_,x,r.at_⟩)
 else ([],r)
end Go.Proofs
end
section
open Go Go.SE
namespace Go.Proofs
attribute [local irreducible] Calls
theorem slT_by:SlType Tryz.prog 23 5 1 1:=by
 refine ⟨Tryz.underlying23,⟨Tryz.t5,_,by kernel_rfl,(by kernel_rfl:Tryz.t5.zero=some (.int .u8 0)),by kernel_rfl,by kernel_rfl,rfl⟩,by omega⟩
theorem c_byClone {S : NP} (s : Sl) (bs : List UInt8) (w0 : World) (hs : Lst S w0 1 s (byr bs)) (hz : s.a = none → s = Sl.nil) (hn : bs.length ≤ 100000000000) :
  Calls Tryz.prog 108 #[s.v] w0 (fun e w'=>∃r:Sl,e=.returned r.v∧RetO w0 5 1 (byr bs) r w'):=by
 refine w_X1 _ w0 (fun r w'=>RetO w0 5 1 (byr bs) r w') ?_
 unfold m_X1
 refine ⟨s.a.isNone,?_,fun h=>?_,fun h=>?_⟩
 ·exact run_eql_slnil w0 s.a s.len s.cap Tryz.underlying23
 ·have hs0:=hz (Option.isNone_iff_eq_none.1 h)
  subst hs0
  have:bs=[]:=by have:=hs.len;rw [byr_len] at this;exact List.length_eq_zero_iff.1 this.symm
  subst this
  exact ⟨Rws.nil _ _ _,fun b hb=>(by obtain ⟨a,ha,_⟩:=hb;cases ha),Ext.refl _⟩
 ·intro p1 w1 h1
  have E1:Pure w0 w1:=Ext.new h1
  obtain ⟨s2,w2,hr,hR,hE,hb⟩:=(Rws.empty (sz:=1) h1).appendL (P:=Tryz.prog) (ty:=23) slT_by (hs.pure E1) (byr_sz _) (byr_one _) (by rw [byr_len];simp;omega) (by rw [byr_len];simp [maxLen];omega)
  have hp:=h1.at_size
  have hp':∀b,(Sl.mk (some p1) 0 0).blk b→w0.heap.size≤b:=fun b hb=>(by obtain ⟨a,ha,e⟩:=hb;cases ha;omega)
  exact ⟨s2,w2,hr,by simpa using hR,fun b h=>(hb b h).elim (hp' b) (fun h=>by have:=E1.size;omega),E1.trans' hE (fun i hi h=>by have:=hp' i h;omega)⟩
theorem RetO.put {w0 w w1 : World} {s : Sl} {bs : List UInt8} {x : UInt8} {p : Addr} (h : RetO w0 5 1 (byr bs) s w) (hn : New w (.cells #[.int .u8 (x.toNat : Int)] 5) p w1) (hl : bs.length ≤ 100000000000) :
  ∃s' w',(Builtin.append_ #[23,23] 23 #[s.v,(Sl.mk (some p) 1 1).v]).run Tryz.prog w1=.ok s'.v w'∧RetO w0 5 1 (byr (bs++[x])) s' w':=by
 have E1:Pure w w1:=Ext.new hn
 have hrow:Row w1 p [.int .u8 (x.toNat:Int)]:=(Box.of_newA hn).row
 obtain ⟨s',w',hr,hR,hE,hb⟩:=(h.rows.pure E1).append (ty:=23) (c:=1) slT_by hrow rfl rfl (by rw [byr_len];omega) (by rw [byr_len];simp [maxLen];omega)
 have h1:=(h.pure.trans E1)
 exact ⟨s',w',hr,by rw [byr_app];exact hR,fun b hb'=>(hb b hb').elim (h.own b) (fun h2=>by have:=h1.size;omega),h1.trans' hE (fun i hi h2=>by have:=h.own i h2;omega)⟩
theorem RetO.text {w0 w : World} {s : Sl} {bs : List UInt8} {x : ByteArray} (h : RetO w0 5 1 (byr (bs ++ varint x.size)) s w) (hn : bs.length ≤ 10000000000) (hN : x.size ≤ 10000000000) :
  ∃s' w',(Builtin.append_ #[23,9] 23 #[s.v,.string x]).run Tryz.prog w=.ok s'.v w'∧RetO w0 5 1 (byr (bs++textBytes x)) s' w':=by
 have hv:=varint_le10 (n:=x.size) (by omega)
 obtain ⟨s',w',hr,hR,hE,hb⟩:=h.rows.appendStr (ty:=23) slT_by Tryz.underlying9 x (by rw [byr_len,List.length_append];omega) (by rw [byr_len,List.length_append];simp [maxLen];omega)
 refine ⟨s',w',hr,?_,fun b hb'=>(hb b hb').elim (h.own b) (fun h2=>by have:=h.pure.size;omega),h.pure.trans' hE (fun i hi h2=>by have:=h.own i h2;omega)⟩
 rw [textBytes,← List.append_assoc,byr_app];exact hR
theorem c_putNum {S : NP} (s : Sl) (bs : List UInt8) (n : Nat) (w0 : World) (hs : Lst S w0 1 s (byr bs)) (hz : s.a = none → s = Sl.nil) (hn : bs.length ≤ 10000000000) (hN : n < 18446744073709551616) :
  Calls Tryz.prog 110 #[s.v,.int .u64 (n:Int)] w0 (fun e w'=>∃r:Sl,e=.returned r.v∧RetO w0 5 1 (byr (bs++varint n)) r w'):=by
 refine w_P1 _ _ w0 (fun r w'=>RetO w0 5 1 (byr (bs++varint n)) r w') ?_
 unfold m_P1
 refine (c_byClone s bs w0 hs hz (by omega)).mono ?_
 rintro _ w1 ⟨r1,rfl,h1⟩
 refine ⟨r1,rfl,fun b m w=>∃k:Nat,∃xs:List UInt8,m=(k:Int)∧k<18446744073709551616∧xs++varint k=bs++varint n∧RetO w0 5 1 (byr xs) b w,fun _ m _=>m.toNat,⟨n,bs,rfl,hN,rfl,h1⟩,?_⟩
 rintro b _ w ⟨k,xs,rfl,hk,hx,hR⟩
 have hlen:xs.length≤10000000010:=by
  have:=congrArg List.length hx
  have:=varint_le10 hN
  simp only [List.length_append] at *
  omega
 unfold m_P1_l1
 refine ⟨fun h=>?_,fun h=>?_⟩
 ·have h:=of_decide_eq_true h
  refine ⟨_,run_or128 k,fun p2 w2 h2=>?_⟩
  obtain ⟨s',w',hr,hR'⟩:=hR.put h2 (by omega)
  refine ⟨s',w',hr,_,run_shr7 k,⟨k / 128,xs++[UInt8.ofNat (k % 128+128)],rfl,by omega,?_,hR'⟩,by show (((k / 128:Nat):Int)).toNat<((k:Int)).toNat;omega⟩
  rw [← hx,varint_ge (n:=k) (by omega)];simp
 ·have h:=of_decide_eq_false h
  intro p2 w2 h2
  rw [wrap_u8] at h2
  obtain ⟨s',w',hr,hR'⟩:=hR.put h2 (by omega)
  refine ⟨s',w',hr,?_⟩
  rw [← hx,varint_lt (n:=k) (by omega)];exact hR'
theorem c_putText {S : NP} (s : Sl) (bs : List UInt8) (x : ByteArray) (w0 : World) (hs : Lst S w0 1 s (byr bs)) (hz : s.a = none → s = Sl.nil) (hn : bs.length ≤ 10000000000) (hN : x.size ≤ 10000000000) :
  Calls Tryz.prog 118 #[s.v,.string x] w0 (fun e w'=>∃r:Sl,e=.returned r.v∧RetO w0 5 1 (byr (bs++textBytes x)) r w'):=by
 refine w_C3 _ _ w0 (fun r w'=>RetO w0 5 1 (byr (bs++textBytes x)) r w') ?_
 unfold m_C3
 rw [show IntKind.u64.wrap (x.size:Int)=(x.size:Int) by simp [IntKind.wrap,IntKind.bits,IntKind.signed];omega]
 refine (c_putNum s bs x.size w0 hs hz hn (by omega)).mono ?_
 rintro _ w1 ⟨r1,rfl,h1⟩
 exact ⟨r1,rfl,h1.text hn hN⟩
end Go.Proofs
end
section
namespace Go.SE
section
variable {P:Program} {n:Nat} {ρ:Env} {w:World} {ds:List Deferred} {Q:Exit→Act→World→Prop} {a:Act}
theorem wpD_first {c1 c2 : Code} (ha : Rep ds n ρ a)
  (h:wpE (x:=⟨none,ds⟩) P n c1 (fun e ρ' w'=>match e with | .normal=>∀a',Rep ds n ρ' a'→c2.wp P Q a' w' | .panic ch=>∀a',Rep ds n ρ' a'→Q (.panic ch) a' w' | _=>False) ρ w):(Code.seq c1 c2).wp P Q a w:=by
 refine wp_seq (wpIn_wide.1 (wpIn_mono (h a ha) ?_))
 rintro e a' w' ⟨ρ',⟨hr,hq⟩ | ⟨rfl,_,_,D,hr,hD,hq⟩⟩
 ·cases e <;> first | exact hq.elim | exact hq _ hr
 ·exact hq.elim
theorem wpD_last {c : Code} (ha : Rep ds n ρ a)
  (h:wpE (x:=⟨none,ds⟩) P n c (fun e ρ' w'=>match e with | .normal=>∀a',Rep ds n ρ' a'→Q .normal a' w' | .panic ch=>∀a',Rep ds n ρ' a'→Q (.panic ch) a' w' | _=>False) ρ w):c.wp P Q a w:=by
 refine wpIn_wide.1 (wpIn_mono (h a ha) ?_)
 rintro e a' w' ⟨ρ',⟨hr,hq⟩ | ⟨rfl,_,_,D,hr,hD,hq⟩⟩
 ·cases e <;> first | exact hq.elim | exact hq _ hr
 ·exact hq.elim
theorem wpD_defer {id t : Nat} {f : FuncId} {caps : Array Operand} {ty ty' : TypeId} {pos pos' : String} {aft aft' : Array Edge} {c2 : Code} (ha : Rep ds n ρ a) (ht : t < n)
  (h:∀a',Rep (⟨.fn (.func f) (caps.map (evE ρ)),#[]⟩ :: ds) n (put ρ (some t) (.func (.func f) #[] (caps.map (evE ρ)))) a'→c2.wp P Q a' w) :
  (Code.seq (.region id #[⟨some t,.makeFunc (.func f) #[] caps,ty,pos,aft,none⟩,⟨none,.defer ⟨.value (.tmp t),#[],#[]⟩,ty',pos',aft',none⟩] false) c2).wp P Q a w:=by
 have h1:Rep ds n (put ρ (some t) (.func (.func f) #[] (caps.map (evE ρ)))) (a.put (some t) (.func (.func f) #[] (caps.map (evE ρ)))):=ha.put (fun k e=>by cases e;exact ht) _
 have h2:=h ({ (a.put (some t) (.func (.func f) #[] (caps.map (evE ρ)))) with defers:=⟨.fn (.func f) (caps.map (evE ρ)),#[]⟩ :: ds }.put none undef) ⟨rfl,h1.size,h1.get⟩
 refine wp_seq ((wpIn_wide (n:=0)).1 (wpIn_region_lit (l:=[_,_]) ?_))
 unfold wpListIn
 rw [if_pos (by simp [Region.wanted])]
 refine wpIn_of_yldP (ro:=none) ⟨by simp,?_⟩
 rw [ha.eval]
 simp only [execOp,Instr.makeFunc]
 show wpListIn _ 0 P _ _ _ _ _
 unfold wpListIn
 rw [if_pos (by simp [Region.wanted])]
 refine ⟨fun f _=>trivial,?_⟩
 have hev:(a.put (some t) (.func (.func f) #[] (caps.map (evE ρ)))).eval (.tmp t)=.func (.func f) #[] (caps.map (evE ρ)):=by
  rw [h1.eval];simp [evE,put,upd]
 have hd:=h1.defers
 simp [Oper.semAt,Fence.wide,execOp,resolve,hev,Deferred.ofValue,Oper.uponIn,wpListIn,Exit.then,hd]
 exact h2
theorem calls_of_wpD {f : FuncId} {fn : Func} {c : Code} {args : List Value} {R : Ending → World → Prop} (hf : P.funcs[f]? = some fn) (hb : fn.body = some c) (hn : fn.ntmps = n) (hl : args.length ≤ n)
  (h:∀a,Rep [] n (argsE args) a→c.wp P (bodyPostD P fn R) a w):Calls P f args.toArray w R:=by
 subst hn;exact calls_of_wp_defers hf hb (h _ (rep_args args hl))
inductive Recov:FrameMode→Value→FrameMode→Prop
 | idle:Recov .returning .nilIface .returning
 | hit (v:Value) (older:List PanicEntry):Recov (.panicking ({ v:=v,recovered:=false } :: older)) v (.panicking ({ v:=v,recovered:=true } :: older))
def bodyEN (P:Program) (fn:Func) (n:Nat) (R:Ending→World→Prop):Exit→Env→World→Prop
 | .normal,ρ,w=>∃v,(∀ds a,Rep ds n ρ a→(results fn a.tmps).run P w=.ok v w)∧R (.returned v) w
 | .panic ch,_,w=>R (.panicked ch) w
 | _,_,_=>False
theorem callsD_recover {id t t2 : Nat} {f : FuncId} {fn : Func} {c : Code} {args : List Value} {v : Value} {u u' : FrameMode} {R : Ending → World → Prop} {ty ty' : TypeId} {pos pos' : String} {aft aft' : Array Edge}
  (hu:Recov u v u') (hf:P.funcs[f]?=some fn)
  (hb:fn.body=some (Code.seq (.region id #[⟨some t,.call ⟨.builtin .recover,#[],#[]⟩,ty,pos,aft,none⟩,⟨some t2,.assign (.tmp t),ty',pos',aft',none⟩] false) c))
  (hn:fn.ntmps=n) (hl:args.length≤n) (ht:t<n) (ht2:t2<n)
  (h:wpE (x:=⟨none,[]⟩) P n c (bodyEN P fn n R) (put (put (argsE args) (some t) v) (some t2) v) w) :
  CallsD P f args.toArray u w (fun e u1 w'=>u1=u'∧R e w'):=by
 subst hn
 refine callsD_of_wpS hf hb fun c₀ cs hm=>?_
 apply wpS_seq
 apply wpS_region
 have hr:=rep_args args hl
 have h1:Rep [] fn.ntmps (put (argsE args) (some t) v) _:=hr.put (d:=some t) (fun k e=>by cases e;exact ht) v
 have h2:Rep [] fn.ntmps (put (put (argsE args) (some t) v) (some t2) v) _:=h1.put (d:=some t2) (fun k e=>by cases e;exact ht2) v
 have hv:((Act.mk (args.toArray++Array.replicate (fn.ntmps - args.toArray.size) undef) []).put (some t) v).eval (.tmp t)=v:=by
  rw [h1.eval];simp [evE,put,upd]
 have key:∀cs',cs'={ c₀ with mode:=u' } :: cs→c.wpS P (bodyPostS P fn c₀ cs fun e u1 w'=>u1=u'∧R e w') ((((Act.mk (args.toArray++Array.replicate (fn.ntmps - args.toArray.size) undef) []).put (some t) v)).put (some t2) v) cs' w:=by
  rintro cs' rfl
  refine wpS_of_wp (wpD_last h2 (wpE_mono ?_ h))
  intro e ρ' w' hq
  cases e with
  | normal =>
   intro a' ha'
   obtain ⟨x,hx,hR⟩:=hq
   exact ⟨ha'.defers,u',rfl,x,hx _ a' ha',rfl,hR⟩
  | panic ch =>
   intro a' ha'
   exact ⟨ha'.defers,u',rfl,rfl,hq⟩
  | _=>exact hq.elim
 have h0:(execOp (Act.mk (args.toArray++Array.replicate (fn.ntmps - args.toArray.size) undef) []).eval ⟨some t,.call ⟨.builtin .recover,#[],#[]⟩,ty,pos,aft,none⟩).run P w=.ok .recover w:=by
  simp [execOp,resolve,invoke,builtin]
 show wpOpsS P _ _ [0,1] _ _ _
 cases hu with
 | idle =>
  have hrd:recoverD (c₀ :: cs)=none:=by simp [recoverD,hm]
  simp only [wpOpsS,List.getElem?_toArray,List.getElem?_cons_zero,List.getElem?_cons_succ]
  rw [if_pos (by simp [Region.wanted]),h0]
  simp only [hrd]
  rw [if_pos (by simp [Region.wanted])]
  simp only [execOp,hv,Oper.upon]
  exact key _ (by cases c₀;simp_all)
 | hit v older =>
  have hrd:recoverD (c₀ :: cs)=some (v,{ c₀ with mode:=.panicking ({ v:=v,recovered:=true } :: older) } :: cs):=by simp [recoverD,hm]
  simp only [wpOpsS,List.getElem?_toArray,List.getElem?_cons_zero,List.getElem?_cons_succ]
  rw [if_pos (by simp [Region.wanted]),h0]
  simp only [hrd]
  rw [if_pos (by simp [Region.wanted])]
  simp only [execOp,hv,Oper.upon]
  exact key _ rfl
end
end Go.SE
end
section
open Go Go.SE
namespace Go.Proofs
attribute [local irreducible] Calls CallsD
theorem x_assertOk {P : Program} {ε : Operand → Value} {w : World} {d : Option Tmp} {ty : TypeId} {pos : String} {aft : Array Edge} {g : Option (Nat × Bool)} {x : Operand} {X T : TypeId} {v : Value} {td : TypeDesc} (hx : ε x = .iface T v) (ht : P.underlying T = some td) (hi : ∀ m, td ≠ .interface m) :
  (execOp ε ⟨d,.typeAssert x X T true,ty,pos,aft,g⟩).run P w=.ok (.value (.tuple #[v,.bool true])) w:=by
 simp only [execOp,hx]
 have:(Instr.typeAssert (.iface T v) X T true).run P w=.ok (.tuple #[v,.bool true]) w:=by
  unfold Instr.typeAssert
  simp only [Sem.run_bind,run_underlying ht,Result.andThen]
  cases td <;> first | exact absurd rfl (hi _) | simp
 simp [this]
set_option maxRecDepth 100000 in
theorem c_recIdle (pf pr:Addr) (w:World):CallsD Tryz.prog 156 #[.pointer (some pf),.pointer (some pr)] .returning w (fun e u' w'=>u'=.returning∧(e=.returned (.tuple #[])∧w'=w)):=by
 refine callsD_recover (args:=[.pointer (some pf),.pointer (some pr)]) (R:=fun e w'=>e=.returned (.tuple #[])∧w'=w) .idle Tryz.func156 rfl Tryz.ntmps156 (Nat.le_of_ble_eq_true rfl) (by decide) (by decide) ?_
 refine wpE_seq ?_
 refine rg ?_
 refine q0 .nilIface ?_
 refine q0 (.bool false) ?_
 refine wpL_nil ?_
 refine th_n ?_
 refine wpE_cond (t:=false) (by kernel_rfl) (fun hc1=>by cases hc1) (fun hc1=>?_)
 refine wpE_skip ?_
 exact ⟨.tuple #[],fun ds a ha=>by rw [results_none Tryz.results156],rfl,rfl⟩
set_option maxRecDepth 100000 in
theorem c_recHit (pf pr r : Addr) (from_ e : Int) (older : List PanicEntry) (w : World) (hf : w.cell? pf = some (.int .i64 from_)) (hr : w.cell? pr = some (.pointer (some r))) (h1 : CanW w (r.add 1)) (h2 : CanW w (r.add 2)) (h3 : CanW w (r.add 3)) :
  CallsD Tryz.prog 156 #[.pointer (some pf),.pointer (some pr)] (.panicking ({ v:=.iface 202 (.int .i64 e),recovered:=false } :: older)) w (fun e' u' w'=>u'=.panicking ({ v:=.iface 202 (.int .i64 e),recovered:=true } :: older) ∧
   (e'=.returned (.tuple #[])∧w'=((w.setCell (r.add 1) (.int .i64 from_)).setCell (r.add 2) (.int .i64 e)).setCell (r.add 3) (.int .i64 from_))):=by
 refine callsD_recover (args:=[.pointer (some pf),.pointer (some pr)]) (R:=fun e' w'=>e'=.returned (.tuple #[])∧w'=((w.setCell (r.add 1) (.int .i64 from_)).setCell (r.add 2) (.int .i64 e)).setCell (r.add 3) (.int .i64 from_)) (.hit _ older) Tryz.func156 rfl Tryz.ntmps156 (Nat.le_of_ble_eq_true rfl) (by decide) (by decide) ?_
 refine wpE_seq ?_
 refine rg ?_
 refine q0 (.iface 202 (.int .i64 e)) ?_
 refine q0 (.bool true) ?_
 refine wpL_nil ?_
 refine th_n ?_
 refine wpE_cond (t:=true) (by kernel_rfl) (fun hc1=>?_) (fun hc1=>by cases hc1)
 refine wpE_seq ?_
 refine rg ?_
 refine q0 (.iface 202 (.int .i64 e)) ?_
 refine q2 (.tuple #[.int .i64 e,.bool true]) (x_assertOk (by kernel_rfl) Tryz.underlying202 (by intro m;simp)) ?_
 refine q0 (.tuple #[.int .i64 e,.bool true]) ?_
 refine q0 (.int .i64 e) ?_
 refine q0 (.bool true) ?_
 refine q0 (.int .i64 e) ?_
 refine q0 (.bool true) ?_
 refine wpL_nil ?_
 refine th_n ?_
 refine wpE_seq ?_
 refine wpE_seq ?_
 refine rg ?_
 refine q0 (.bool true) ?_
 refine q0 (.bool false) ?_
 refine wpL_nil ?_
 refine th_n ?_
 refine wpE_cond (t:=false) (by kernel_rfl) (fun hc1=>by cases hc1) (fun hc1=>?_)
 refine wpE_skip ?_
 refine th_n ?_
 refine rg ?_
 refine q2 (.pointer (some r)) (x_load (a:=pr) (by kernel_rfl) (Tryz.isAgg125 _) hr) ?_
 refine q2 (.pointer (some r)) (x_load (a:=pr) (by kernel_rfl) (Tryz.isAgg125 _) hr) ?_
 refine q2 (.pointer (some r)) (x_load (a:=pr) (by kernel_rfl) (Tryz.isAgg125 _) hr) ?_
 refine q2 (.int .i64 from_) (x_load (a:=pf) (by kernel_rfl) (Tryz.isAgg3 _) hf) ?_
 refine q0 (.int .i64 e) ?_
 refine q2 (.int .i64 from_) (x_load (a:=pf) (by kernel_rfl) (Tryz.isAgg3 _) hf) ?_
 refine q0 (.pointer (some r)) ?_
 refine q0 (.pointer (some (r.add 1))) ?_
 refine st_set (want0 rfl) (x_store (a:=r.add 1) (v:=.int .i64 from_) (by kernel_rfl) (by kernel_rfl) rfl (Tryz.sizeOf3 _) h1) ?_
 rintro w1 rfl
 refine q0 (.pointer (some r)) ?_
 refine q0 (.pointer (some (r.add 2))) ?_
 refine st_set (want0 rfl) (x_store (a:=r.add 2) (v:=.int .i64 e) (by kernel_rfl) (by kernel_rfl) rfl (Tryz.sizeOf31 _) (CanW.setCell h2)) ?_
 rintro w2 rfl
 refine q0 (.pointer (some r)) ?_
 refine q0 (.pointer (some (r.add 3))) ?_
 refine st_set (want0 rfl) (x_store (a:=r.add 3) (v:=.int .i64 from_) (by kernel_rfl) (by kernel_rfl) rfl (Tryz.sizeOf3 _) (CanW.setCell (CanW.setCell h3))) ?_
 rintro w3 rfl
 refine wpL_nil ?_
 exact ⟨.tuple #[],fun ds a ha=>by rw [results_none Tryz.results156],rfl,rfl⟩
end Go.Proofs
end
section
open Go Go.SE
namespace Go.Proofs
attribute [local irreducible] Calls CallsD
theorem inv_of {P:Program} {w:World} {f:FuncId} {cap args:Array Value} (hc:∀args w,(callFunc f args).run P w=.ok (.enter f args) w) (h:cap=args):(invoke (.fn (.func f) cap) #[]).run P w=.ok (.enter f args) w:=by
 subst h;simp [invoke,hc]
set_option maxRecDepth 100000 in
theorem c_readsOff (r : Addr) (do_ : Value) (e : Int) (w0 : World) (he : w0.cell? (r.add 2) = some (.int .i64 e)) (h0 : e ≠ 0) :
  Calls Tryz.prog 146 #[.pointer (some r),do_] w0 (fun e w'=>e=.returned (.tuple #[])∧Pure w0 w'):=by
 refine calls_of_wpE (args:=[.pointer (some r),do_]) Tryz.func146 rfl Tryz.ntmps146 (Nat.le_of_ble_eq_true rfl) ?_
 refine wpE_seq ?_
 refine rg ?_
 refine st_new (O:=(.cells #[(.pointer (some r))] 125)) (fun p=>.pointer (some p)) (want0 rfl) (x_box (cs:=#[(.pointer (some r))]) (by kernel_rfl)) ?_
 intro p1 w1 hn1
 have E1:Pure w0 w1:=Ext.new hn1
 have hp1:w1.cell? p1=some (.pointer (some r)):=(Box.of_newA hn1).cell0
 have he1:=E1.cell he id
 refine wpL_nil ?_
 refine th_n ?_
 refine wpE_seq ?_
 refine wpE_seq ?_
 refine rg ?_
 refine q2 (.pointer (some r)) (x_load (a:=p1) (by kernel_rfl) (Tryz.isAgg125 _) hp1) ?_
 refine q2 (.bool false) (x_ptreq (x:=some r) (by kernel_rfl) rfl Tryz.underlying125) ?_
 refine q0 (.bool false) ?_
 refine q2 (.pointer (some r)) (x_load (a:=p1) (by kernel_rfl) (Tryz.isAgg125 _) hp1) ?_
 refine q0 (.pointer (some r)) ?_
 refine q0 (.pointer (some (r.add 2))) ?_
 refine q2 (.int .i64 e) (x_load (a:=r.add 2) (by kernel_rfl) (Tryz.isAgg31 _) he1) ?_
 refine q0 (.bool ((e:Int) != 0)) ?_
 refine q0 (.bool ((e:Int) != 0)) ?_
 refine wpL_nil ?_
 refine th_n ?_
 refine wpE_cond (t:=true) (by rw [show ((e:Int) != 0)=true by simpa using h0];kernel_rfl) (fun hc1=>?_) (fun hc1=>by cases hc1)
 refine wpE_ret ?_
 refine th_r ?_
 exact res0 (.inl rfl) Tryz.results146 ⟨rfl,E1⟩
set_option maxRecDepth 100000 in
theorem c_reads (r : Addr) (fd : FuncId) (caps : Array Value) (at_ : Int) (w0 : World) (K : WP) (h1 : w0.cell? (r.add 1) = some (.int .i64 at_)) (h2 : w0.cell? (r.add 2) = some (.int .i64 0))
  (hc:∀args w,(callFunc fd args).run Tryz.prog w=.ok (.enter fd args) w)
  (hdo:∀w1 p pf,Pure w0 w1→w0.heap.size≤Addr.block p→w0.heap.size≤Addr.block pf→w1.cell? p=some (.pointer (some r))→w1.cell? pf=some (.int .i64 at_) →
   Calls Tryz.prog fd caps w1 (fun e w2=>(e=.returned (.tuple #[])∧K w2)∨∃x,e=.panicked [{ v:=.iface 202 (.int .i64 x),recovered:=false }]∧w2.cell? p=some (.pointer (some r))∧w2.cell? pf=some (.int .i64 at_)∧CanW w2 (r.add 1)∧CanW w2 (r.add 2)∧CanW w2 (r.add 3) ∧
    K (((w2.setCell (r.add 1) (.int .i64 at_)).setCell (r.add 2) (.int .i64 x)).setCell (r.add 3) (.int .i64 at_)))) :
  Calls Tryz.prog 146 #[.pointer (some r),.func (.func fd) #[] caps] w0 (fun e w'=>e=.returned (.tuple #[])∧K w'):=by
 refine calls_of_wpD (args:=[.pointer (some r),.func (.func fd) #[] caps]) Tryz.func146 rfl Tryz.ntmps146 (Nat.le_of_ble_eq_true rfl) ?_
 intro a ha
 refine wpD_first ha ?_
 refine rg ?_
 refine st_new (O:=(.cells #[(.pointer (some r))] 125)) (fun p=>.pointer (some p)) (want0 rfl) (x_box (cs:=#[(.pointer (some r))]) (by kernel_rfl)) ?_
 intro p1 w1 hn1
 have E1:Pure w0 w1:=Ext.new hn1
 have hp1:w1.cell? p1=some (.pointer (some r)):=(Box.of_newA hn1).cell0
 have he1:=E1.cell h2 id
 have hb1:=hn1.at_size
 clear ha
 refine wpL_nil ?_
 intro a ha
 refine wpD_first ha ?_
 refine wpE_seq ?_
 refine rg ?_
 refine q2 (.pointer (some r)) (x_load (a:=p1) (by kernel_rfl) (Tryz.isAgg125 _) hp1) ?_
 refine q2 (.bool false) (x_ptreq (x:=some r) (by kernel_rfl) rfl Tryz.underlying125) ?_
 refine q0 (.bool false) ?_
 refine q2 (.pointer (some r)) (x_load (a:=p1) (by kernel_rfl) (Tryz.isAgg125 _) hp1) ?_
 refine q0 (.pointer (some r)) ?_
 refine q0 (.pointer (some (r.add 2))) ?_
 refine q2 (.int .i64 0) (x_load (a:=r.add 2) (by kernel_rfl) (Tryz.isAgg31 _) he1) ?_
 refine q0 (.bool false) ?_
 refine q0 (.bool false) ?_
 refine wpL_nil ?_
 refine th_n ?_
 refine wpE_cond (t:=false) (by kernel_rfl) (fun hc1=>by cases hc1) (fun hc1=>?_)
 refine wpE_skip ?_
 clear ha
 intro a ha
 refine wpD_first ha ?_
 refine rg ?_
 refine q2 (.pointer (some r)) (x_load (a:=p1) (by kernel_rfl) (Tryz.isAgg125 _) hp1) ?_
 refine q0 (.pointer (some r)) ?_
 refine q0 (.pointer (some (r.add 1))) ?_
 refine q2 (.int .i64 at_) (x_load (a:=r.add 1) (by kernel_rfl) (Tryz.isAgg3 _) (E1.cell h1 id)) ?_
 refine st_new (O:=(.cells #[(.int .i64 0)] 3)) (fun p=>.pointer (some p)) (want0 rfl) (x_alloc (Tryz.zeroValue3 _) rfl) ?_
 intro p2 w2 hn2
 have E2:Pure w0 w2:=E1.trans (Ext.new hn2)
 have hb2:=hn2.at_size
 have B2:=Box.of_newA hn2
 refine st_set (want0 rfl) (x_store (a:=p2) (v:=.int .i64 at_) (by kernel_rfl) (by kernel_rfl) rfl (Tryz.sizeOf3 _) (B2.canW0 (by simp))) ?_
 intro w3 hw3
 have hb3:=World.block_lt_of_cell? w1 p1 hp1
 have E3:Pure w0 w3:=E2.own (p:=p2) (by have:=E1.size;omega) (hw3▸Ext.setCell p2 _)
 have hp3:w3.cell? p1=some (.pointer (some r)):=by
  rw [hw3];exact (Ext.setCell p2 _).cell ((Ext.new (F:=None) hn2).cell hp1 id) (fun e=>by omega)
 have hf3:w3.cell? p2=some (.int .i64 at_):=by
  rw [hw3];exact (B2.set0).cell0
 refine wpL_nil ?_
 clear ha
 intro a ha
 refine wpD_defer ha (by decide) ?_
 clear ha
 intro a ha
 refine wpD_last ha ?_
 refine wpE_regionP (by kernel_rfl) ?_
 refine wpLP_split 1 ?_
 refine q0 (.func (.func fd) #[] caps) ?_
 refine wpL_nil ?_
 refine sp_call (want0 rfl) (by intro c hc;cases hc) (x_callv (caps:=caps) (args:=#[]) (args':=caps) (by kernel_rfl) hc rfl (by simp)) ((hdo w3 p1 p2 E3 (by omega) (by have:=E1.size;omega) hp3 hf3).mono ?_)
 rintro e w4 (⟨rfl,hK⟩ | ⟨x,rfl,ha1,ha2,hw1,hw2,hw3',hK⟩)
 ·refine .inl ⟨_,rfl,?_⟩
  refine wpLP_nil ?_
  clear ha
  intro a ha
  show Leaves _ _ _ _ _ _ _
  rw [ha.defers]
  refine leaves_cons (f:=156) (args:=#[.pointer (some p2),.pointer (some p1)]) (by simp) (inv_of Tryz.call156 (by simp [evE,put,upd])) ?_
  refine (c_recIdle p2 p1 w4).mono ?_
  rintro e u' w5 ⟨rfl,rfl,rfl⟩
  exact ⟨_,results_none Tryz.results146 _ _ _,rfl,hK⟩
 ·refine .inr ⟨_,rfl,?_⟩
  intro ρ' 
  clear ha
  intro a ha
  show Leaves _ _ _ _ _ _ _
  rw [ha.defers]
  refine leaves_cons (f:=156) (args:=#[.pointer (some p2),.pointer (some p1)]) (by simp) (inv_of Tryz.call156 (by simp [evE,put,upd])) ?_
  refine (c_recHit p2 p1 r at_ x [] w4 ha2 ha1 hw1 hw2 hw3').mono ?_
  rintro e u' w5 ⟨rfl,rfl,rfl⟩
  exact ⟨_,results_none Tryz.results146 _ _ _,rfl,hK⟩
end Go.Proofs
end
section
open Go Go.SE
namespace Go.Proofs
attribute [local irreducible] Calls CallsD
structure RdAt (S:NP) (w:World) (a:Addr) (s:Sl) (bs:List UInt8) (at_ err spot:Int):Prop where
 box:Box w a [s.v,.int .i64 at_,.int .i64 err,.int .i64 spot] 184
 lst:Lst S w 1 s (byr bs)
 apart:∀b,S b→b≠a.block
 small:bs.length≤100000000000
 room:s.len≤s.cap
def gave (e:Int):List PanicEntry:=[{ v:=.iface 202 (.int .i64 e),recovered:=false }]
section
variable {S:NP} {w w':World} {a:Addr} {s:Sl} {bs:List UInt8} {at_ err spot:Int}
theorem RdAt.ext {F:NP} (h:RdAt S w a s bs at_ err spot) (E:Ext F w w') (hF:∀b,S b→¬ F b) (ha:¬ F a.block):RdAt S w' a s bs at_ err spot :=
 ⟨h.box.ext E ha,h.lst.ext E hF,h.apart,h.small,h.room⟩
theorem RdAt.pure (h:RdAt S w a s bs at_ err spot) (E:Pure w w'):RdAt S w' a s bs at_ err spot:=h.ext E (fun _ _ h=>h) id
theorem RdAt.atC (h:RdAt S w a s bs at_ err spot):w.cell? (a.add 1)=some (.int .i64 at_):=h.box.cell (i:=1) rfl
theorem RdAt.errC (h:RdAt S w a s bs at_ err spot):w.cell? (a.add 2)=some (.int .i64 err):=h.box.cell (i:=2) rfl
theorem RdAt.setAt (h:RdAt S w a s bs at_ err spot) (k:Int):RdAt S (w.setCell (a.add 1) (.int .i64 k)) a s bs k err spot :=
 ⟨h.box.set 1 _,h.lst.ext (Ext.setCell _ _) (fun b hb e=>h.apart b hb (by rw [add_block] at e;exact e)),h.apart,h.small,h.room⟩
theorem RdAt.setErr (h:RdAt S w a s bs at_ err spot) (k:Int):RdAt S (w.setCell (a.add 2) (.int .i64 k)) a s bs at_ k spot :=
 ⟨h.box.set 2 _,h.lst.ext (Ext.setCell _ _) (fun b hb e=>h.apart b hb (by rw [add_block] at e;exact e)),h.apart,h.small,h.room⟩
theorem RdAt.setSpot (h:RdAt S w a s bs at_ err spot) (k:Int):RdAt S (w.setCell (a.add 3) (.int .i64 k)) a s bs at_ err k :=
 ⟨h.box.set 3 _,h.lst.ext (Ext.setCell _ _) (fun b hb e=>h.apart b hb (by rw [add_block] at e;exact e)),h.apart,h.small,h.room⟩
theorem ext_set {k:Nat} {v:Value}:Ext (·=a.block) w (w.setCell (a.add k) v):=(Ext.setCell _ _).mono (fun i _ e=>by rw [add_block] at e;exact e)
end
theorem c_byte {S : NP} (a : Addr) (s : Sl) (bs : List UInt8) (at_ : Nat) (err spot : Int) (w0 : World) (h : RdAt S w0 a s bs at_ err spot) (hat : at_ ≤ bs.length) :
  Calls Tryz.prog 151 #[.pointer (some a)] w0 (fun e w'=>(∃hlt:at_<bs.length,e=.returned (.int .u8 (bs[at_].toNat:Int))∧RdAt S w' a s bs ((at_+1:Nat):Int) err spot∧Ext (·=a.block) w0 w') ∨
   (at_=bs.length∧e=.panicked (gave 3)∧RdAt S w' a s bs at_ err spot∧Ext (·=a.block) w0 w')):=by
 refine (w_F1 (some a) w0 (fun o r w'=>(∃hlt:at_<bs.length,o=none∧r=(bs[at_].toNat:Int)∧RdAt S w' a s bs ((at_+1:Nat):Int) err spot∧Ext (·=a.block) w0 w')∨(at_=bs.length∧o=some (gave 3)∧RdAt S w' a s bs at_ err spot∧Ext (·=a.block) w0 w')) ?_).mono ?_
 ·unfold m_F1
  refine ⟨a,rfl,fun w1 hs=>?_⟩
  have h1:=h.pure hs.first
  have hl:s.len=bs.length:=by rw [h.lst.len,byr_len]
  refine ⟨_,h1.atC,a,rfl,s,h1.box.cell0,fun hc=>?_,fun hc=>?_⟩
  ·have:at_=bs.length:=by have:=beq_iff_eq.1 hc;omega
   exact .inr ⟨this,rfl,h1,Ext.pure hs.first⟩
  ·have hne:at_≠bs.length:=by have:=beq_eq_false_iff_ne.1 hc;omega
   have hlt:at_<bs.length:=by omega
   unfold m_F1_j1
   refine ⟨a,rfl,_,h1.atC,a,rfl,h1.box.canW (i:=1) (by simp),id,?_⟩
   rintro w2 rfl
   have hw:IntKind.i64.wrap ((at_:Int)+1)=((at_+1:Nat):Int):=wrap_succ hlt (by have:=h.small;omega)
   rw [hw]
   have h2:=h1.setAt ((at_+1:Nat):Int)
   refine ⟨a,rfl,fun w3 hs3=>?_⟩
   have h3:=h2.pure hs3.ext
   have hw2:IntKind.i64.wrap (((at_+1:Nat):Int) - 1)=(at_:Int):=by
    rw [IntWalk.i64_in _ (by have:=h.small;omega)];omega
   obtain ⟨c,hc1,_,hc3⟩:=by_nth h3.lst hlt
   refine ⟨s,h3.box.cell0,a,rfl,_,h3.atC,c,?_,_,hc3,.inl ⟨hlt,rfl,rfl,h3,((Ext.pure hs.first).trans ext_set).thenPure hs3.ext⟩⟩
   rw [hw2];exact hc1
 ·rintro e w' (⟨r,rfl,h⟩ | ⟨ch,rfl,h⟩)
  ·rcases h with ⟨hlt,_,rfl,h⟩ | ⟨_,h,_⟩
   ·exact .inl ⟨hlt,rfl,h⟩
   ·cases h
  ·rcases h with ⟨hlt,h,_⟩ | ⟨h1,h2,h⟩
   ·cases h
   ·cases h2;exact .inr ⟨h1,rfl,h⟩
theorem c_num {S : NP} (a : Addr) (s : Sl) (bs : List UInt8) (at_ : Nat) (err spot : Int) (w0 : World) (h : RdAt S w0 a s bs at_ err spot) (hat : at_ ≤ bs.length) :
  Calls Tryz.prog 148 #[.pointer (some a)] w0 (fun e w'=>(∃n k:Nat,rdNum 0 0 (bs.drop at_)=.ok (n,k)∧e=.returned (.int .u64 (n:Int))∧n<18446744073709551616∧at_+k≤bs.length∧RdAt S w' a s bs ((at_+k:Nat):Int) err spot∧Ext (·=a.block) w0 w') ∨
   (∃x:Nat,∃at':Int,rdNum 0 0 (bs.drop at_)=.error x∧e=.panicked (gave x)∧RdAt S w' a s bs at' err spot∧Ext (·=a.block) w0 w')):=by
 refine (w_Q (some a) w0 (fun o r w' => (∃ n k : Nat, rdNum 0 0 (bs.drop at_) = .ok (n, k) ∧ o = none ∧ r = (n : Int) ∧ n < 18446744073709551616 ∧ at_ + k ≤ bs.length ∧ RdAt S w' a s bs ((at_ + k : Nat) : Int) err spot ∧ Ext (· = a.block) w0 w') ∨
   (∃x:Nat,∃at':Int,rdNum 0 0 (bs.drop at_)=.error x∧o=some (gave x)∧RdAt S w' a s bs at' err spot∧Ext (·=a.block) w0 w')) ?_).mono ?_
 ·unfold m_Q
  refine ⟨fun n i w=>∃acc k:Nat,n=(acc:Int)∧i=(k:Int)∧k≤9∧acc<2 ^ (7*k)∧at_+k≤bs.length∧rdNum k acc (bs.drop (at_+k))=rdNum 0 0 (bs.drop at_)∧RdAt S w a s bs ((at_+k:Nat):Int) err spot∧Ext (·=a.block) w0 w,fun _ i _=>(10 - i).toNat,⟨0,0,rfl,rfl,by omega,by simp,by simpa using hat,rfl,by simpa using h,Ext.refl _⟩,?_⟩
  rintro _ _ wl ⟨acc,k,rfl,rfl,hk,hacc,hle,hrd,hR,hE⟩
  unfold m_Q_l1
  refine (c_byte a s bs (at_+k) err spot wl hR hle).mono ?_
  rintro e w1 (⟨hlt,rfl,hR1,hE1⟩ | ⟨heq,rfl,hR1,hE1⟩)
  ·refine .inl ⟨_,rfl,?_⟩
   have hdrop:bs.drop (at_+k)=bs[at_+k] :: bs.drop (at_+k+1):=List.drop_eq_getElem_cons hlt
   generalize hcc:bs[at_+k]=c at *
   have hc:=c.toNat_lt
   rw [hdrop,rdNum_cons] at hrd
   refine ⟨fun hb=>?_,fun hb=>?_⟩
   ·have hb':k=9∧1<c.toNat:=by simp at hb;omega
    rw [if_pos hb'] at hrd
    exact .inr ⟨11,_,hrd.symm,rfl,hR1,hE.trans hE1⟩
   ·have hb':¬ (k=9∧1<c.toNat):=by intro hh;simp at hb;omega
    rw [if_neg hb'] at hrd
    have hpw:c.toNat % 128*2 ^ (7*k)<18446744073709551616:=by
     by_cases h9:k=9
     ·subst h9;omega
     ·have h8:2 ^ (7*k)≤2 ^ 56:=Nat.pow_le_pow_right (by omega) (by omega)
      have h127:c.toNat % 128≤127:=by omega
      calc c.toNat % 128*2 ^ (7*k)≤127*2 ^ 56:=Nat.mul_le_mul h127 h8
       _<18446744073709551616:=by decide
    have hac:acc<18446744073709551616:=Nat.lt_of_lt_of_le hacc (by
     calc 2 ^ (7*k)≤2 ^ 63:=Nat.pow_le_pow_right (by omega) (by omega)
      _≤18446744073709551616:=by decide)
    have h7:IntKind.i64.wrap (7*(k:Int))=((7*k:Nat):Int):=by rw [IntWalk.i64_in _ (by omega)];simp
    have h128:128 ^ k=2 ^ (7*k):=by rw [Nat.pow_mul]
    have hsum:acc ||| (c.toNat % 128*2 ^ (7*k))=acc+c.toNat % 128*2 ^ (7*k):=or_add hacc
    have hsl:acc+c.toNat % 128*2 ^ (7*k)<18446744073709551616:=by
     rw [← hsum];exact Nat.or_lt_two_pow (n:=64) hac hpw
    unfold m_Q_j2
    rw [h7]
    refine ⟨_,run_and127 c.toNat hc,_,by rw [wrap_u64 (by omega)];exact run_shl _ _ (by omega) hpw,_,run_or64 _ _ hac hpw,?_⟩
    rw [hsum]
    refine ⟨fun hs=>?_,fun hs=>?_⟩
    ·have hs':c.toNat<128:=by have:=of_decide_eq_true hs;omega
     rw [if_pos hs'] at hrd
     refine ⟨fun hz=>?_,fun hz=>?_⟩
     ·have hz':c.toNat=0∧0<k:=by simp at hz;omega
      rw [if_pos hz'] at hrd
      exact .inr ⟨10,_,hrd.symm,rfl,hR1,hE.trans hE1⟩
     ·have hz':¬ (c.toNat=0∧0<k):=by intro hh;simp at hz;omega
      rw [if_neg hz',h128] at hrd
      rw [Nat.mod_eq_of_lt hs'] at hsl ⊢
      exact .inl ⟨_,k+1,hrd.symm,rfl,rfl,hsl,by omega,hR1,hE.trans hE1⟩
    ·have hs':¬ c.toNat<128:=by have:=of_decide_eq_false hs;omega
     rw [if_neg hs',h128] at hrd
     have hk9:k≠9:=by omega
     rw [wrap_succ (n:=10) (by omega) (by omega)]
     refine ⟨⟨_,k+1,rfl,rfl,by omega,?_,by omega,hrd,hR1,hE.trans hE1⟩,by show (10 - ((k+1:Nat):Int)).toNat<(10 - (k:Int)).toNat;omega⟩
     have:2 ^ (7*(k+1))=128*2 ^ (7*k):=by rw [Nat.mul_add,Nat.pow_add];omega
     rw [this]
     have h127:c.toNat % 128*2 ^ (7*k)≤127*2 ^ (7*k):=Nat.mul_le_mul_right _ (by omega)
     omega
  ·refine .inr ⟨_,rfl,.inr ⟨3,_,?_,rfl,hR1,hE.trans hE1⟩⟩
   rw [← hrd,heq,List.drop_length];rfl
 ·rintro e w' (⟨r,rfl,h⟩ | ⟨ch,rfl,h⟩)
  ·rcases h with ⟨n,k,h1,_,rfl,h⟩ | ⟨_,_,_,h,_⟩
   ·exact .inl ⟨n,k,h1,rfl,h⟩
   ·cases h
  ·rcases h with ⟨n,k,h1,h,_⟩ | ⟨x,at',h1,h2,h⟩
   ·cases h
   ·cases h2;exact .inr ⟨x,at',h1,rfl,h⟩
end Go.Proofs
end
section
open Go Go.SE
namespace Go.Proofs
attribute [local irreducible] Calls CallsD
abbrev RdS (S:NP) (w:World) (a:Addr) (s:Sl) (bs:List UInt8) (r:Rd):Prop:=RdAt S w a s bs r.at_ r.err r.spot
theorem box_set {w:World} {p:Addr} {u v:Value} {T:TypeId} (h:Box w p [u] T):Box (w.setCell p v) p [v] T:=h.set0
theorem RdAt.gives {S : NP} {w : World} {a : Addr} {s : Sl} {bs : List UInt8} {at_ err spot : Int} (h : RdAt S w a s bs at_ err spot) (f e : Int) :
  CanW w (a.add 1)∧CanW w (a.add 2)∧CanW w (a.add 3)∧RdAt S (((w.setCell (a.add 1) (.int .i64 f)).setCell (a.add 2) (.int .i64 e)).setCell (a.add 3) (.int .i64 f)) a s bs f e f :=
 ⟨h.box.canW (i:=1) (by simp),h.box.canW (i:=2) (by simp),h.box.canW (i:=3) (by simp),((h.setAt f).setErr e).setSpot f⟩
theorem ext_set3 {w:World} {a:Addr} {u v x:Value}:Ext (·=a.block) w (((w.setCell (a.add 1) u).setCell (a.add 2) v).setCell (a.add 3) x):=(ext_set.trans ext_set).trans ext_set
theorem c_RNum {S : NP} (a : Addr) (s : Sl) (bs : List UInt8) (r : Rd) (w0 : World) (h : RdS S w0 a s bs r) (hat : r.at_ ≤ bs.length) (hS : ∀ b, S b → b < w0.heap.size) :
  Calls Tryz.prog 112 #[.pointer (some a)] w0 (fun e w'=>∃x:Int,e=.returned (.int .u64 x)∧x=((rNum bs r).1:Int)∧RdS S w' a s bs (rNum bs r).2∧Ext (·=a.block) w0 w'):=by
 refine w_W2 (some a) w0 (fun x w'=>x=((rNum bs r).1:Int)∧RdS S w' a s bs (rNum bs r).2∧Ext (·=a.block) w0 w') ?_
 unfold m_W2
 intro p1 w1 n1 p2 w2 n2
 have E1:Pure w0 w1:=Ext.new n1
 have E2:Pure w0 w2:=E1.trans (Ext.new n2)
 have hp1:w2.cell? p1=some (.pointer (some a)):=(Ext.new (F:=None) n2).cell (Box.of_newA n1).cell0 id
 have b1:=n1.at_size
 have b2:=n2.at_size
 have b12:p1.block≠p2.block:=by have:=World.block_lt_of_cell? w1 p1 (Box.of_newA n1).cell0;omega
 have ha0:=World.block_lt_of_cell? w0 a h.box.cell0
 have B2:=Box.of_newA n2
 have h2:=h.pure E2
 refine ⟨some a,hp1,?_⟩
 have fin:∀w3,(Box w3 p2 [.int .u64 ((rNum bs r).1:Int)] 47∧RdS S w3 a s bs (rNum bs r).2∧Ext (·=a.block) w0 w3)→∃v2:Int,w3.cell? p2=some (.int .u64 v2)∧CanW w3 p2∧∀w4:World,w4=w3.setCell p2 (.int .u64 v2)→∃qV1:Int,w4.cell? p2=some (.int .u64 qV1)∧(qV1=((rNum bs r).1:Int)∧RdS S w4 a s bs (rNum bs r).2∧Ext (·=a.block) w0 w4):=by
  rintro w3 ⟨hB,hR,hE⟩
  refine ⟨_,hB.cell0,hB.canW0 (by simp),?_⟩
  rintro w4 rfl
  have hx:Ext (·=p2.block) w3 (w3.setCell p2 (.int .u64 ((rNum bs r).1:Int))):=Ext.setCell _ _
  exact ⟨_,(box_set hB).cell0,rfl,hR.ext hx (fun b hb e=>by have:=hS b hb;have:=E1.size;omega) (fun e=>by have:=E1.size;omega),hE.trans' hx (fun i hi e=>by have:=E1.size;omega)⟩
 by_cases he:r.err=0
 ·refine (c_reads a 147 _ r.at_ w2 (fun w3=>Box w3 p2 [.int .u64 ((rNum bs r).1:Int)] 47∧RdS S w3 a s bs (rNum bs r).2∧Ext (·=a.block) w0 w3) h2.atC (by have:=h2.errC;rw [he] at this;exact this) Tryz.call147 ?_).mono ?_
  ·intro w3 p pf E3 hp hpf hpc hpfc
   have h3:=h2.pure E3
   refine (w_K3 p1 p2 w3 (fun o w4=>(o=none∧(Box w4 p2 [.int .u64 ((rNum bs r).1:Int)] 47∧RdS S w4 a s bs (rNum bs r).2∧Ext (·=a.block) w0 w4))∨(∃x,o=some (gave x)∧w4.cell? p=some (.pointer (some a))∧w4.cell? pf=some (.int .i64 r.at_)∧CanW w4 (a.add 1)∧CanW w4 (a.add 2)∧CanW w4 (a.add 3) ∧
    (Box (((w4.setCell (a.add 1) (.int .i64 r.at_)).setCell (a.add 2) (.int .i64 x)).setCell (a.add 3) (.int .i64 r.at_)) p2 [.int .u64 ((rNum bs r).1:Int)] 47∧RdS S (((w4.setCell (a.add 1) (.int .i64 r.at_)).setCell (a.add 2) (.int .i64 x)).setCell (a.add 3) (.int .i64 r.at_)) a s bs (rNum bs r).2∧Ext (·=a.block) w0 (((w4.setCell (a.add 1) (.int .i64 r.at_)).setCell (a.add 2) (.int .i64 x)).setCell (a.add 3) (.int .i64 r.at_))))) ?_).mono ?_
   ·unfold m_K3
    refine ⟨some a,E3.cell hp1 id,?_⟩
    refine (c_num a s bs r.at_ r.err r.spot w3 h3 hat).mono ?_
    rintro e w4 (⟨n,k,hn,rfl,hlt,hle,hR,hE⟩ | ⟨x,at',hn,rfl,hR,hE⟩)
    ·refine .inl ⟨_,rfl,?_⟩
     have hB4:Box w4 p2 [.int .u64 0] 47:=(B2.pure E3).ext hE (fun e=>by have:=E1.size;omega)
     refine ⟨hB4.canW0 (by simp),?_⟩
     rintro w5 rfl
     have hx:Ext (·=p2.block) w4 (w4.setCell p2 (.int .u64 (n:Int))):=Ext.setCell _ _
     have hrn:rNum bs r=(n,⟨r.at_+k,0,r.spot⟩):=by simp [rNum,he,hn]
     rw [hrn]
     refine .inl ⟨rfl,box_set hB4,?_,((Ext.pure (E2.trans E3)).trans hE).trans' hx (fun i hi e=>by have:=E1.size;omega)⟩
     have:=hR.ext hx (fun b hb e=>by have:=hS b hb;have:=E1.size;omega) (fun e=>by have:=E1.size;omega)
     rw [he] at this
     exact this
    ·refine .inr ⟨_,rfl,.inr ⟨x,rfl,?_⟩⟩
     have hrn:rNum bs r=(0,⟨r.at_,x,r.at_⟩):=by simp [rNum,he,hn]
     have hB4:Box w4 p2 [.int .u64 0] 47:=(B2.pure E3).ext hE (fun e=>by have:=E1.size;omega)
     obtain ⟨c1,c2,c3,hR'⟩:=hR.gives r.at_ x
     rw [hrn]
     exact ⟨hE.cell hpc (fun e=>by have:=E2.size;omega),hE.cell hpfc (fun e=>by have:=E2.size;omega),c1,c2,c3,hB4.ext ext_set3 (fun e=>by have:=E1.size;omega),hR',((Ext.pure (E2.trans E3)).trans hE).trans ext_set3⟩
   ·rintro e w4 (⟨rfl,h⟩ | ⟨ch,rfl,h⟩)
    ·rcases h with ⟨_,h⟩ | ⟨_,h,_⟩
     ·exact .inl ⟨rfl,h⟩
     ·cases h
    ·rcases h with ⟨h,_⟩ | ⟨x,h1,h⟩
     ·cases h
     ·cases h1;exact .inr ⟨x,rfl,h⟩
  ·rintro e w3 ⟨rfl,hK⟩
   exact ⟨rfl,fin w3 hK⟩
 ·refine (c_readsOff a _ r.err w2 h2.errC (by omega)).mono ?_
  rintro e w3 ⟨rfl,E3⟩
  have hrn:rNum bs r=(0,r):=by simp [rNum,he]
  refine ⟨rfl,fin w3 ?_⟩
  rw [hrn]
  exact ⟨B2.pure E3,h2.pure E3,Ext.pure (E2.trans E3)⟩
theorem c_Byte {S : NP} (a : Addr) (s : Sl) (bs : List UInt8) (r : Rd) (w0 : World) (h : RdS S w0 a s bs r) (hat : r.at_ ≤ bs.length) (hS : ∀ b, S b → b < w0.heap.size) :
  Calls Tryz.prog 125 #[.pointer (some a)] w0 (fun e w'=>∃x:Int,e=.returned (.int .u8 x)∧x=((rByte bs r).1:Int)∧RdS S w' a s bs (rByte bs r).2∧Ext (·=a.block) w0 w'):=by
 refine w_L2 (some a) w0 (fun x w'=>x=((rByte bs r).1:Int)∧RdS S w' a s bs (rByte bs r).2∧Ext (·=a.block) w0 w') ?_
 unfold m_L2
 intro p1 w1 n1 p2 w2 n2
 have E1:Pure w0 w1:=Ext.new n1
 have E2:Pure w0 w2:=E1.trans (Ext.new n2)
 have hp1:w2.cell? p1=some (.pointer (some a)):=(Ext.new (F:=None) n2).cell (Box.of_newA n1).cell0 id
 have b1:=n1.at_size
 have b2:=n2.at_size
 have b12:p1.block≠p2.block:=by have:=World.block_lt_of_cell? w1 p1 (Box.of_newA n1).cell0;omega
 have ha0:=World.block_lt_of_cell? w0 a h.box.cell0
 have B2:=Box.of_newA n2
 have h2:=h.pure E2
 refine ⟨some a,hp1,?_⟩
 have fin:∀w3,(Box w3 p2 [.int .u8 ((rByte bs r).1:Int)] 5∧RdS S w3 a s bs (rByte bs r).2∧Ext (·=a.block) w0 w3)→∃v2:Int,w3.cell? p2=some (.int .u8 v2)∧CanW w3 p2∧∀w4:World,w4=w3.setCell p2 (.int .u8 v2)→∃qV1:Int,w4.cell? p2=some (.int .u8 qV1)∧(qV1=((rByte bs r).1:Int)∧RdS S w4 a s bs (rByte bs r).2∧Ext (·=a.block) w0 w4):=by
  rintro w3 ⟨hB,hR,hE⟩
  refine ⟨_,hB.cell0,hB.canW0 (by simp),?_⟩
  rintro w4 rfl
  have hx:Ext (·=p2.block) w3 (w3.setCell p2 (.int .u8 ((rByte bs r).1:Int))):=Ext.setCell _ _
  exact ⟨_,(box_set hB).cell0,rfl,hR.ext hx (fun b hb e=>by have:=hS b hb;have:=E1.size;omega) (fun e=>by have:=E1.size;omega),hE.trans' hx (fun i hi e=>by have:=E1.size;omega)⟩
 by_cases he:r.err=0
 ·refine (c_reads a 150 _ r.at_ w2 (fun w3=>Box w3 p2 [.int .u8 ((rByte bs r).1:Int)] 5∧RdS S w3 a s bs (rByte bs r).2∧Ext (·=a.block) w0 w3) h2.atC (by have:=h2.errC;rw [he] at this;exact this) Tryz.call150 ?_).mono ?_
  ·intro w3 p pf E3 hp hpf hpc hpfc
   have h3:=h2.pure E3
   refine (w_L3 p1 p2 w3 (fun o w4=>(o=none∧(Box w4 p2 [.int .u8 ((rByte bs r).1:Int)] 5∧RdS S w4 a s bs (rByte bs r).2∧Ext (·=a.block) w0 w4))∨(∃x,o=some (gave x)∧w4.cell? p=some (.pointer (some a))∧w4.cell? pf=some (.int .i64 r.at_)∧CanW w4 (a.add 1)∧CanW w4 (a.add 2)∧CanW w4 (a.add 3) ∧
    (Box (((w4.setCell (a.add 1) (.int .i64 r.at_)).setCell (a.add 2) (.int .i64 x)).setCell (a.add 3) (.int .i64 r.at_)) p2 [.int .u8 ((rByte bs r).1:Int)] 5∧RdS S (((w4.setCell (a.add 1) (.int .i64 r.at_)).setCell (a.add 2) (.int .i64 x)).setCell (a.add 3) (.int .i64 r.at_)) a s bs (rByte bs r).2∧Ext (·=a.block) w0 (((w4.setCell (a.add 1) (.int .i64 r.at_)).setCell (a.add 2) (.int .i64 x)).setCell (a.add 3) (.int .i64 r.at_))))) ?_).mono ?_
   ·unfold m_L3
    refine ⟨some a,E3.cell hp1 id,?_⟩
    refine (c_byte a s bs r.at_ r.err r.spot w3 h3 hat).mono ?_
    rintro e w4 (⟨hlt,rfl,hR,hE⟩ | ⟨heq,rfl,hR,hE⟩)
    ·refine .inl ⟨_,rfl,?_⟩
     have hB4:Box w4 p2 [.int .u8 0] 5:=(B2.pure E3).ext hE (fun e=>by have:=E1.size;omega)
     refine ⟨hB4.canW0 (by simp),?_⟩
     rintro w5 rfl
     have hx:Ext (·=p2.block) w4 (w4.setCell p2 (.int .u8 (bs[r.at_].toNat:Int))):=Ext.setCell _ _
     have hrn:rByte bs r=(bs[r.at_].toNat,⟨r.at_+1,0,r.spot⟩):=by simp [rByte,he,hlt]
     rw [hrn]
     refine .inl ⟨rfl,box_set hB4,?_,((Ext.pure (E2.trans E3)).trans hE).trans' hx (fun i hi e=>by have:=E1.size;omega)⟩
     have:=hR.ext hx (fun b hb e=>by have:=hS b hb;have:=E1.size;omega) (fun e=>by have:=E1.size;omega)
     rw [he] at this
     exact this
    ·refine .inr ⟨_,rfl,.inr ⟨3,rfl,?_⟩⟩
     have hrn:rByte bs r=(0,⟨r.at_,3,r.at_⟩):=by simp [rByte,he,heq]
     have hB4:Box w4 p2 [.int .u8 0] 5:=(B2.pure E3).ext hE (fun e=>by have:=E1.size;omega)
     obtain ⟨c1,c2,c3,hR'⟩:=hR.gives r.at_ 3
     rw [hrn]
     exact ⟨hE.cell hpc (fun e=>by have:=E2.size;omega),hE.cell hpfc (fun e=>by have:=E2.size;omega),c1,c2,c3,hB4.ext ext_set3 (fun e=>by have:=E1.size;omega),hR',((Ext.pure (E2.trans E3)).trans hE).trans ext_set3⟩
   ·rintro e w4 (⟨rfl,h⟩ | ⟨ch,rfl,h⟩)
    ·rcases h with ⟨_,h⟩ | ⟨_,h,_⟩
     ·exact .inl ⟨rfl,h⟩
     ·cases h
    ·rcases h with ⟨h,_⟩ | ⟨x,h1,h⟩
     ·cases h
     ·cases h1;exact .inr ⟨x,rfl,h⟩
  ·rintro e w3 ⟨rfl,hK⟩
   exact ⟨rfl,fin w3 hK⟩
 ·refine (c_readsOff a _ r.err w2 h2.errC (by omega)).mono ?_
  rintro e w3 ⟨rfl,E3⟩
  have hrn:rByte bs r=(0,r):=by simp [rByte,he]
  refine ⟨rfl,fin w3 ?_⟩
  rw [hrn]
  exact ⟨B2.pure E3,h2.pure E3,Ext.pure (E2.trans E3)⟩
end Go.Proofs
end
section
open Go Go.SE
namespace Go.Proofs
attribute [local irreducible] Calls CallsD
theorem c_Text {S : NP} (a : Addr) (s : Sl) (bs : List UInt8) (most : Nat) (r : Rd) (w0 : World) (h : RdS S w0 a s bs r) (hat : r.at_ ≤ bs.length) (hS : ∀ b, S b → b < w0.heap.size) (hm : most ≤ 1000000000) :
  Calls Tryz.prog 120 #[.pointer (some a),.int .i64 (most:Int)] w0 (fun e w'=>∃x:ByteArray,e=.returned (.string x)∧x=⟨(rText bs most r).1.toArray⟩∧RdS S w' a s bs (rText bs most r).2∧Ext (·=a.block) w0 w'):=by
 refine w_E3 (some a) most w0 (fun x w'=>x=⟨(rText bs most r).1.toArray⟩∧RdS S w' a s bs (rText bs most r).2∧Ext (·=a.block) w0 w') ?_
 unfold m_E3
 intro p1 w1 n1 pm w1' nm p2 w2 n2
 have E1:Pure w0 w1:=Ext.new n1
 have E1':Pure w0 w1':=E1.trans (Ext.new nm)
 have E2:Pure w0 w2:=E1'.trans (Ext.new n2)
 have hp1':w1'.cell? p1=some (.pointer (some a)):=(Ext.new (F:=None) nm).cell (Box.of_newA n1).cell0 id
 have hp1:w2.cell? p1=some (.pointer (some a)):=(Ext.new (F:=None) n2).cell hp1' id
 have hpm:w2.cell? pm=some (.int .i64 (most:Int)):=(Ext.new (F:=None) n2).cell (Box.of_newA nm).cell0 id
 have b1:=n1.at_size
 have bm:=nm.at_size
 have b2:=n2.at_size
 have b12:p1.block≠p2.block:=by have:=World.block_lt_of_cell? w1' p1 hp1';omega
 have ha0:=World.block_lt_of_cell? w0 a h.box.cell0
 have B2:=Box.of_newA n2
 have h2:=h.pure E2
 have g1:w0.heap.size≤p2.block:=by have:=E1'.size;omega
 have g2:w0.heap.size≤p1.block:=by omega
 have g3:w0.heap.size≤pm.block:=by have:=E1.size;omega
 refine ⟨some a,hp1,?_⟩
 have fin:∀w3,(Box w3 p2 [.string ⟨(rText bs most r).1.toArray⟩] 9∧RdS S w3 a s bs (rText bs most r).2∧Ext (·=a.block) w0 w3)→∃v2:ByteArray,w3.cell? p2=some (.string v2)∧CanW w3 p2∧∀w4:World,w4=w3.setCell p2 (.string v2)→∃qV1:ByteArray,w4.cell? p2=some (.string qV1)∧(qV1=⟨(rText bs most r).1.toArray⟩∧RdS S w4 a s bs (rText bs most r).2∧Ext (·=a.block) w0 w4):=by
  rintro w3 ⟨hB,hR,hE⟩
  refine ⟨_,hB.cell0,hB.canW0 (by simp),?_⟩
  rintro w4 rfl
  have hx:Ext (·=p2.block) w3 (w3.setCell p2 (.string ⟨(rText bs most r).1.toArray⟩)):=Ext.setCell _ _
  exact ⟨_,(box_set hB).cell0,rfl,hR.ext hx (fun b hb e=>by have:=hS b hb;omega) (fun e=>by omega),hE.trans' hx (fun i hi e=>by omega)⟩
 by_cases he:r.err=0
 ·refine (c_reads a 149 _ r.at_ w2 (fun w3=>Box w3 p2 [.string ⟨(rText bs most r).1.toArray⟩] 9∧RdS S w3 a s bs (rText bs most r).2∧Ext (·=a.block) w0 w3) h2.atC (by have:=h2.errC;rw [he] at this;exact this) Tryz.call149 ?_).mono ?_
  ·intro w3 p pf E3 hp hpf hpc hpfc
   have h3:=h2.pure E3
   refine (w_N p1 pm p2 w3 (fun o w4=>(o=none∧(Box w4 p2 [.string ⟨(rText bs most r).1.toArray⟩] 9∧RdS S w4 a s bs (rText bs most r).2∧Ext (·=a.block) w0 w4))∨(∃x,o=some (gave x)∧w4.cell? p=some (.pointer (some a))∧w4.cell? pf=some (.int .i64 r.at_)∧CanW w4 (a.add 1)∧CanW w4 (a.add 2)∧CanW w4 (a.add 3) ∧
    (Box (((w4.setCell (a.add 1) (.int .i64 r.at_)).setCell (a.add 2) (.int .i64 x)).setCell (a.add 3) (.int .i64 r.at_)) p2 [.string ⟨(rText bs most r).1.toArray⟩] 9∧RdS S (((w4.setCell (a.add 1) (.int .i64 r.at_)).setCell (a.add 2) (.int .i64 x)).setCell (a.add 3) (.int .i64 r.at_)) a s bs (rText bs most r).2∧Ext (·=a.block) w0 (((w4.setCell (a.add 1) (.int .i64 r.at_)).setCell (a.add 2) (.int .i64 x)).setCell (a.add 3) (.int .i64 r.at_))))) ?_).mono ?_
   ·unfold m_N
    refine ⟨some a,E3.cell hp1 id,?_⟩
    refine (c_num a s bs r.at_ r.err r.spot w3 h3 hat).mono ?_
    have give:∀(x:Nat) (at':Int) (w4:World),rText bs most r=([],⟨r.at_,x,r.at_⟩)→RdAt S w4 a s bs at' r.err r.spot→Ext (·=a.block) w3 w4→(∃y,some (gave x)=some (gave y)∧w4.cell? p=some (.pointer (some a))∧w4.cell? pf=some (.int .i64 r.at_)∧CanW w4 (a.add 1)∧CanW w4 (a.add 2)∧CanW w4 (a.add 3) ∧
     (Box (((w4.setCell (a.add 1) (.int .i64 r.at_)).setCell (a.add 2) (.int .i64 y)).setCell (a.add 3) (.int .i64 r.at_)) p2 [.string ⟨(rText bs most r).1.toArray⟩] 9∧RdS S (((w4.setCell (a.add 1) (.int .i64 r.at_)).setCell (a.add 2) (.int .i64 y)).setCell (a.add 3) (.int .i64 r.at_)) a s bs (rText bs most r).2∧Ext (·=a.block) w0 (((w4.setCell (a.add 1) (.int .i64 r.at_)).setCell (a.add 2) (.int .i64 y)).setCell (a.add 3) (.int .i64 r.at_)))):=by
     intro x at' w4 hrn hR hE
     have hB4:Box w4 p2 [.string ⟨#[]⟩] 9:=(B2.pure E3).ext hE (fun e=>by omega)
     obtain ⟨c1,c2,c3,hR'⟩:=hR.gives r.at_ x
     rw [hrn]
     exact ⟨x,rfl,hE.cell hpc (fun e=>by have:=E2.size;omega),hE.cell hpfc (fun e=>by have:=E2.size;omega),c1,c2,c3,hB4.ext ext_set3 (fun e=>by omega),hR',((Ext.pure (E2.trans E3)).trans hE).trans ext_set3⟩
    rintro e w4 (⟨n,k,hn,rfl,hlt,hle,hR,hE⟩ | ⟨x,at',hn,rfl,hR,hE⟩)
    ·refine .inl ⟨_,rfl,hE.kept (fun b hb=>hb.elim),_,hE.cell (E3.cell hpm id) (fun e=>by omega),fun hb=>?_,fun _=>⟨_,hE.cell (E3.cell hpm id) (fun e=>by omega),?_⟩⟩
     ·have:=of_decide_eq_true hb;omega
     ·rw [wrap_u64 (by omega)]
      refine ⟨fun hb=>?_,fun hb=>?_⟩
      ·have hlt':most<n:=by have:=of_decide_eq_true hb;omega
       exact .inr (give 1 _ w4 (by simp [rText,he,hn,hlt']) hR hE)
      ·have hlt':¬ most<n:=by have:=of_decide_eq_false hb;omega
       unfold m_N_j2
       intro w5 hs5
       have E5:=hs5.ext
       have hR5:=hR.pure E5
       have hp5:w5.cell? p1=some (.pointer (some a)):=E5.cell (hE.cell (E3.cell hp1 id) (fun e=>by omega)) id
       have hl:s.len=bs.length:=by rw [h.lst.len,byr_len]
       have hsm:=h.small
       have hE5:Ext (·=a.block) w3 w5:=hE.thenPure E5
       refine ⟨_,hp5,a,rfl,s,hR5.box.cell0,_,hp5,a,rfl,_,hR5.atC,?_⟩
       have hw1:IntKind.u64.wrap (IntKind.i64.wrap ((s.len:Int) - ((r.at_+k:Nat):Int)))=((bs.length - (r.at_+k):Nat):Int):=by
        rw [hl,IntWalk.i64_in _ (by omega),show ((bs.length:Int) - ((r.at_+k:Nat):Int))=((bs.length - (r.at_+k):Nat):Int) by omega,wrap_u64 (by omega)]
       rw [hw1]
       refine ⟨fun hb2=>?_,fun hb2=>?_⟩
       ·have hg:bs.length<r.at_+k+n:=by have:=of_decide_eq_true hb2;omega
        exact .inr (give 3 _ w5 (by simp [rText,he,hn,hlt',hg]) hR5 hE5)
       ·have hg:¬ bs.length<r.at_+k+n:=by have:=of_decide_eq_false hb2;omega
        have hrn:rText bs most r=((bs.drop (r.at_+k)).take n,⟨r.at_+k+n,0,r.spot⟩):=by simp [rText,he,hn,hlt',hg]
        unfold m_N_j3
        refine ⟨fun _=>True,trivial,?_⟩
        intro w6 hw6
        have E6:Pure w5 w6:=by rw [hw6];exact Ext.drew _
        have hR6:=hR5.pure E6
        have hp6:=E6.cell hp5 id
        have hn1:IntKind.i64.wrap (n:Int)=(n:Int):=IntWalk.i64_in _ (by omega)
        have hn2:IntKind.i64.wrap (((r.at_+k:Nat):Int)+(n:Int))=((r.at_+k+n:Nat):Int):=by rw [IntWalk.i64_in _ (by omega)];simp
        obtain ⟨s1,hr1,hL1⟩:=hR6.lst.sub (k:=.i64) (lo:=r.at_+k) (n:=n) slT_by h.room (by rw [byr_len];omega)
        have hB6:Box w6 p2 [.string ⟨#[]⟩] 9:=((B2.pure E3).ext hE5 (fun e=>by omega)).pure E6
        have hL2:Lst S w6 1 s1 (byr ((bs.drop (r.at_+k)).take n)):=by
         have e:(List.drop (r.at_+k) (byr bs)).take n=byr ((bs.drop (r.at_+k)).take n):=by simp [byr,List.map_take,List.map_drop]
         rw [← e];exact hL1
        refine ⟨_,hp6,a,rfl,s,hR6.box.cell0,_,hp6,a,rfl,_,hR6.atC,_,hp6,a,rfl,_,hR6.atC,s1,by rw [hn1,hn2];exact hr1,_,run_str Tryz.underlying23 Tryz.underlying5 Tryz.underlying9 hL2,hB6.canW0 (by simp),id,?_⟩
        rintro w7 rfl
        have hx:Ext (·=p2.block) w6 (w6.setCell p2 (.string ⟨((bs.drop (r.at_+k)).take n).toArray⟩)):=Ext.setCell _ _
        have hR7:=hR6.ext hx (fun b hb e=>by have:=hS b hb;omega) (fun e=>by omega)
        refine ⟨_,hx.cell hp6 (fun e=>b12 e),a,rfl,_,hR7.atC,a,rfl,hR7.box.canW (i:=1) (by simp),id,?_⟩
        rintro w8 rfl
        rw [hn1,hn2,hrn]
        have hR8:=hR7.setAt ((r.at_+k+n:Nat):Int)
        rw [he] at hR8
        exact .inl ⟨rfl,(box_set hB6).ext ext_set (fun e=>by omega),hR8,((((Ext.pure (E2.trans E3)).trans hE5).thenPure E6).trans' hx (fun i hi e=>by omega)).trans ext_set⟩
    ·exact .inr ⟨_,rfl,.inr (give x at' w4 (by simp [rText,he,hn]) hR hE)⟩
   ·rintro e w4 (⟨rfl,h⟩ | ⟨ch,rfl,h⟩)
    ·rcases h with ⟨_,h⟩ | ⟨_,h,_⟩
     ·exact .inl ⟨rfl,h⟩
     ·cases h
    ·rcases h with ⟨h,_⟩ | ⟨x,h1,h⟩
     ·cases h
     ·cases h1;exact .inr ⟨x,rfl,h⟩
  ·rintro e w3 ⟨rfl,hK⟩
   exact ⟨rfl,fin w3 hK⟩
 ·refine (c_readsOff a _ r.err w2 h2.errC (by omega)).mono ?_
  rintro e w3 ⟨rfl,E3⟩
  have hrn:rText bs most r=([],r):=by simp [rText,he]
  refine ⟨rfl,fin w3 ?_⟩
  rw [hrn]
  exact ⟨B2.pure E3,h2.pure E3,Ext.pure (E2.trans E3)⟩
end Go.Proofs
end
section
open Go Go.SE
namespace Go.Proofs
attribute [local irreducible] Calls CallsD
theorem rws_room {w:World} {e:TypeId} {sz:Nat} {s:Sl} {rs:List (List Value)} (h:Rws w e sz s rs):s.len≤s.cap:=by
 rcases h.own with ⟨rfl,_⟩ | ⟨g,cur,_,_,hc,_⟩
 ·exact Nat.le_refl _
 ·rw [h.len];exact hc
theorem c_cNew {S : NP} (s : Sl) (bs : List UInt8) (w0 : World) (hs : Lst S w0 1 s (byr bs)) (hz : s.a = none → s = Sl.nil) (hn : bs.length ≤ 100000000000) :
  Calls Tryz.prog 74 #[s.v] w0 (fun e w'=>∃x:Option Addr,e=.returned (.pointer x)∧∃a s',x=some a∧RdS s'.blk w' a s' bs ⟨0,0,0⟩∧Pure w0 w'∧w0.heap.size≤a.block∧(∀b,s'.blk b→w0.heap.size≤b∧b<w'.heap.size)):=by
 refine w_I2 _ w0 (fun x w'=>∃a s',x=some a∧RdS s'.blk w' a s' bs ⟨0,0,0⟩∧Pure w0 w'∧w0.heap.size≤a.block∧(∀b,s'.blk b→w0.heap.size≤b∧b<w'.heap.size)) ?_
 unfold m_I2
 refine (c_byClone s bs w0 hs hz hn).mono ?_
 rintro _ w1 ⟨r1,rfl,hR⟩
 refine ⟨r1,rfl,fun p2 w2 n2=>⟨p2,r1,rfl,?_,hR.pure.trans (Ext.new n2),by rw [n2.at_size];exact hR.pure.size,fun b hb=>⟨hR.own b hb,?_⟩⟩⟩
 ·have hb1:∀b,r1.blk b→b<w1.heap.size:=fun b hb=>hR.rows.lt hb
  exact ⟨Box.of_newA n2,(hR.rows.pure (Ext.new n2)).lst,fun b hb e=>by have:=hb1 b hb;have:=n2.at_size;omega,hn,rws_room hR.rows⟩
 ·exact (hR.rows.pure (Ext.new n2)).lt hb
theorem c_Left {S : NP} (a : Addr) (s : Sl) (bs : List UInt8) (r : Rd) (w0 : World) (h : RdS S w0 a s bs r) (hat : r.at_ ≤ bs.length) :
  Calls Tryz.prog 76 #[.pointer (some a)] w0 (fun e w'=>∃x:Int,e=.returned (.int .i64 x)∧x=((bs.length - r.at_:Nat):Int)∧Pure w0 w'):=by
 refine w_J2 (some a) w0 (fun x w'=>x=((bs.length - r.at_:Nat):Int)∧Pure w0 w') ?_
 unfold m_J2
 refine ⟨fun hb=>(by cases hb),fun _=>⟨a,rfl,fun w1 hs=>?_⟩⟩
 have h1:=h.pure hs.first
 have hl:s.len=bs.length:=by rw [h.lst.len,byr_len]
 refine ⟨s,h1.box.cell0,a,rfl,_,h1.atC,?_,hs.first⟩
 rw [hl,IntWalk.i64_in _ (by have:=h.small;omega)];omega
theorem c_At {S : NP} (a : Addr) (s : Sl) (bs : List UInt8) (r : Rd) (w0 : World) (h : RdS S w0 a s bs r) :
  Calls Tryz.prog 77 #[.pointer (some a)] w0 (fun e w'=>∃x:Int,e=.returned (.int .i64 x)∧x=(r.at_:Int)∧w'=w0):=by
 refine w_K2 (some a) w0 (fun x w'=>x=(r.at_:Int)∧w'=w0) ?_
 unfold m_K2
 exact ⟨fun hb=>(by cases hb),fun _=>⟨a,rfl,_,h.atC,rfl,rfl⟩⟩
theorem c_Why {S : NP} (a : Addr) (s : Sl) (bs : List UInt8) (r : Rd) (w0 : World) (h : RdS S w0 a s bs r) :
  Calls Tryz.prog 126 #[.pointer (some a)] w0 (fun e w'=>∃x y:Int,e=.returned (.tuple #[.int .i64 x,.int .i64 y])∧x=(r.err:Int)∧y=(r.spot:Int)∧Pure w0 w'):=by
 refine w_M2 (some a) w0 (fun x y w'=>x=(r.err:Int)∧y=(r.spot:Int)∧Pure w0 w') ?_
 unfold m_M2
 refine ⟨fun hb=>(by cases hb),fun _=>⟨a,rfl,fun w1 hs=>?_⟩⟩
 have h1:=h.pure hs.first
 exact ⟨_,h1.errC,a,rfl,_,h1.box.cell (i:=3) rfl,rfl,rfl,hs.first⟩
end Go.Proofs
end
section
open Go Go.SE
namespace Go.Proofs
attribute [local irreducible] Calls CallsD
theorem RetO.after {w w1 w2:World} {e:TypeId} {sz:Nat} {rs:List (List Value)} {s:Sl} (E:Pure w w1) (h:RetO w1 e sz rs s w2):RetO w e sz rs s w2 :=
 ⟨h.rows,fun b hb=>Nat.le_trans E.size (h.own b hb),E.trans h.pure⟩
section
variable {S:NP} (s:Sl) (bs:List UInt8) (k f t x a b:Int) (y:ByteArray) (m:Option Nat) (w0:World) (hs:Lst S w0 1 s (byr bs)) (hz:s.a=none→s=Sl.nil) (hn:bs.length≤10000000000)
include hs hz hn
theorem c_putFrom (n : Nat) (hf : f = n) (hN : n < 9223372036854775808) :
  Calls Tryz.prog 109 #[s.v,.agg #[.int .i64 k,.int .i64 f,.int .i64 t,.int .u64 x,.string y,.int .i64 a,.int .i64 b],.map m] w0 (fun e w'=>∃r:Sl,e=.returned r.v∧RetO w0 5 1 (byr (bs++varint n)) r w'):=by
 subst hf
 refine w_V2 s k n t x y a b m w0 (fun r w'=>RetO w0 5 1 (byr (bs++varint n)) r w') ?_
 unfold m_V2
 intro H1 w1 hs1
 rw [wrap_u64 (by omega)]
 refine (c_putNum s bs n w1 (hs.pure hs1.first) hz hn (by omega)).mono ?_
 rintro _ w2 ⟨r,rfl,hR⟩
 exact ⟨r,rfl,hR.kept,hR.after hs1.first⟩
theorem c_putTo (n : Nat) (ht : t = n) (hN : n < 9223372036854775808) :
  Calls Tryz.prog 113 #[s.v,.agg #[.int .i64 k,.int .i64 f,.int .i64 t,.int .u64 x,.string y,.int .i64 a,.int .i64 b],.map m] w0 (fun e w'=>∃r:Sl,e=.returned r.v∧RetO w0 5 1 (byr (bs++varint n)) r w'):=by
 subst ht
 refine w_Y2 s k f n x y a b m w0 (fun r w'=>RetO w0 5 1 (byr (bs++varint n)) r w') ?_
 unfold m_Y2
 intro H1 w1 hs1
 rw [wrap_u64 (by omega)]
 refine (c_putNum s bs n w1 (hs.pure hs1.first) hz hn (by omega)).mono ?_
 rintro _ w2 ⟨r,rfl,hR⟩
 exact ⟨r,rfl,hR.kept,hR.after hs1.first⟩
theorem c_putNumF (n : Nat) (hx : x = n) (hN : n < 18446744073709551616) :
  Calls Tryz.prog 115 #[s.v,.agg #[.int .i64 k,.int .i64 f,.int .i64 t,.int .u64 x,.string y,.int .i64 a,.int .i64 b],.map m] w0 (fun e w'=>∃r:Sl,e=.returned r.v∧RetO w0 5 1 (byr (bs++varint n)) r w'):=by
 subst hx
 refine w_A3 s k f t n y a b m w0 (fun r w'=>RetO w0 5 1 (byr (bs++varint n)) r w') ?_
 unfold m_A3
 intro H1 w1 hs1
 refine (c_putNum s bs n w1 (hs.pure hs1.first) hz hn (by omega)).mono ?_
 rintro _ w2 ⟨r,rfl,hR⟩
 exact ⟨r,rfl,hR.kept,hR.after hs1.first⟩
theorem c_putTextF (hN : y.size ≤ 10000000000) :
  Calls Tryz.prog 117 #[s.v,.agg #[.int .i64 k,.int .i64 f,.int .i64 t,.int .u64 x,.string y,.int .i64 a,.int .i64 b],.map m] w0 (fun e w'=>∃r:Sl,e=.returned r.v∧RetO w0 5 1 (byr (bs++textBytes y)) r w'):=by
 refine w_D3 s k f t x y a b m w0 (fun r w'=>RetO w0 5 1 (byr (bs++textBytes y)) r w') ?_
 unfold m_D3
 intro H1 w1 hs1
 refine (c_putText s bs y w1 (hs.pure hs1.first) hz hn hN).mono ?_
 rintro _ w2 ⟨r,rfl,hR⟩
 exact ⟨r,rfl,hR.kept,hR.after hs1.first⟩
theorem c_putA (mb : Nat) (M : List (Int × Int)) (n : Nat) (hM : IMap (fun i : Int => .int .i64 i) w0 mb M) (hk : SE.look M a = some (n : Int)) (hN : n < 9223372036854775808) :
  Calls Tryz.prog 121 #[s.v,.agg #[.int .i64 k,.int .i64 f,.int .i64 t,.int .u64 x,.string y,.int .i64 a,.int .i64 b],.map (some mb)] w0 (fun e w'=>∃r:Sl,e=.returned r.v∧RetO w0 5 1 (byr (bs++varint n)) r w'):=by
 refine w_G3 s k f t x y a b (some mb) w0 (fun r w'=>RetO w0 5 1 (byr (bs++varint n)) r w') ?_
 unfold m_G3
 intro H1 w1 hs1
 rcases (hM.pure hs1.first).get (P:=Tryz.prog) (T:=152) Tryz.underlying152 Tryz.underlying30 (Tryz.zeroValue3 _) a false with ⟨h1,_⟩ | ⟨v,h1,hg⟩
 ·rw [hk] at h1;cases h1
 rw [hk] at h1;cases h1
 refine ⟨_,hg,?_⟩
 rw [wrap_u64 (by omega)]
 refine (c_putNum s bs n w1 (hs.pure hs1.first) hz hn (by omega)).mono ?_
 rintro _ w2 ⟨r,rfl,hR⟩
 exact ⟨r,rfl,hR.kept,hR.after hs1.first⟩
theorem c_putB (mb : Nat) (M : List (Int × Int)) (n : Nat) (hM : IMap (fun i : Int => .int .i64 i) w0 mb M) (hk : SE.look M b = some (n : Int)) (hN : n < 9223372036854775808) :
  Calls Tryz.prog 123 #[s.v,.agg #[.int .i64 k,.int .i64 f,.int .i64 t,.int .u64 x,.string y,.int .i64 a,.int .i64 b],.map (some mb)] w0 (fun e w'=>∃r:Sl,e=.returned r.v∧RetO w0 5 1 (byr (bs++varint n)) r w'):=by
 refine w_I3 s k f t x y a b (some mb) w0 (fun r w'=>RetO w0 5 1 (byr (bs++varint n)) r w') ?_
 unfold m_I3
 intro H1 w1 hs1
 rcases (hM.pure hs1.first).get (P:=Tryz.prog) (T:=152) Tryz.underlying152 Tryz.underlying30 (Tryz.zeroValue3 _) b false with ⟨h1,_⟩ | ⟨v,h1,hg⟩
 ·rw [hk] at h1;cases h1
 rw [hk] at h1;cases h1
 refine ⟨_,hg,?_⟩
 rw [wrap_u64 (by omega)]
 refine (c_putNum s bs n w1 (hs.pure hs1.first) hz hn (by omega)).mono ?_
 rintro _ w2 ⟨r,rfl,hR⟩
 exact ⟨r,rfl,hR.kept,hR.after hs1.first⟩
end
end Go.Proofs
end
section
open Go Go.SE
namespace Go.Proofs
attribute [local irreducible] Calls CallsD
section
variable {S:NP} (a q:Addr) (s:Sl) (bs:List UInt8) (r:Rd) (cells:List Value) (w0:World) (h:RdS S w0 a s bs r) (hat:r.at_≤bs.length) (hS:∀b,S b→b<w0.heap.size) (hq:Box w0 q cells 188) (hl:cells.length=12) (haq:a.block≠q.block) (hSq:∀b,S b→b≠q.block)
include h hat hS hq hl haq hSq
theorem c_getFrom:Calls Tryz.prog 111 #[.pointer (some a),.pointer (some q)] w0 (fun e w'=>e=.returned (.tuple #[])∧RdS S w' a s bs (rNum bs r).2∧Box w' q (cells.set 7 (.int .u64 ((rNum bs r).1:Int))) 188∧Ext (fun b=>b=a.block∨b=q.block) w0 w'):=by
 refine w_X2 (some a) (some q) w0 (fun w'=>RdS S w' a s bs (rNum bs r).2∧Box w' q (cells.set 7 (.int .u64 ((rNum bs r).1:Int))) 188∧Ext (fun b=>b=a.block∨b=q.block) w0 w') ?_
 unfold m_X2
 refine (c_RNum a s bs r w0 h hat hS).mono ?_
 rintro e w1 ⟨x,rfl,rfl,hR,hE⟩
 have hq1:=hq.ext hE (fun e=>haq e.symm)
 refine ⟨_,rfl,q,rfl,hq1.canW (i:=7) (by omega),?_⟩
 rintro w2 rfl
 have hx:Ext (·=q.block) w1 (w1.setCell (q.add 7) (.int .u64 ((rNum bs r).1:Int))):=ext_set
 exact ⟨hR.ext hx (fun b hb e=>hSq b hb e) haq,hq1.set 7 _,(hE.mono (fun _ _ e=>.inl e)).trans (hx.mono (fun _ _ e=>.inr e))⟩
theorem c_getTo:Calls Tryz.prog 114 #[.pointer (some a),.pointer (some q)] w0 (fun e w'=>e=.returned (.tuple #[])∧RdS S w' a s bs (rNum bs r).2∧Box w' q (cells.set 8 (.int .u64 ((rNum bs r).1:Int))) 188∧Ext (fun b=>b=a.block∨b=q.block) w0 w'):=by
 refine w_Z2 (some a) (some q) w0 (fun w'=>RdS S w' a s bs (rNum bs r).2∧Box w' q (cells.set 8 (.int .u64 ((rNum bs r).1:Int))) 188∧Ext (fun b=>b=a.block∨b=q.block) w0 w') ?_
 unfold m_Z2
 refine (c_RNum a s bs r w0 h hat hS).mono ?_
 rintro e w1 ⟨x,rfl,rfl,hR,hE⟩
 have hq1:=hq.ext hE (fun e=>haq e.symm)
 refine ⟨_,rfl,q,rfl,hq1.canW (i:=8) (by omega),?_⟩
 rintro w2 rfl
 have hx:Ext (·=q.block) w1 (w1.setCell (q.add 8) (.int .u64 ((rNum bs r).1:Int))):=ext_set
 exact ⟨hR.ext hx (fun b hb e=>hSq b hb e) haq,hq1.set 8 _,(hE.mono (fun _ _ e=>.inl e)).trans (hx.mono (fun _ _ e=>.inr e))⟩
theorem c_getNum:Calls Tryz.prog 116 #[.pointer (some a),.pointer (some q)] w0 (fun e w'=>e=.returned (.tuple #[])∧RdS S w' a s bs (rNum bs r).2∧Box w' q (cells.set 3 (.int .u64 ((rNum bs r).1:Int))) 188∧Ext (fun b=>b=a.block∨b=q.block) w0 w'):=by
 refine w_B3 (some a) (some q) w0 (fun w'=>RdS S w' a s bs (rNum bs r).2∧Box w' q (cells.set 3 (.int .u64 ((rNum bs r).1:Int))) 188∧Ext (fun b=>b=a.block∨b=q.block) w0 w') ?_
 unfold m_B3
 refine (c_RNum a s bs r w0 h hat hS).mono ?_
 rintro e w1 ⟨x,rfl,rfl,hR,hE⟩
 have hq1:=hq.ext hE (fun e=>haq e.symm)
 refine ⟨_,rfl,q,rfl,hq1.canW (i:=3) (by omega),?_⟩
 rintro w2 rfl
 have hx:Ext (·=q.block) w1 (w1.setCell (q.add 3) (.int .u64 ((rNum bs r).1:Int))):=ext_set
 exact ⟨hR.ext hx (fun b hb e=>hSq b hb e) haq,hq1.set 3 _,(hE.mono (fun _ _ e=>.inl e)).trans (hx.mono (fun _ _ e=>.inr e))⟩
theorem c_getText:Calls Tryz.prog 119 #[.pointer (some a),.pointer (some q)] w0 (fun e w'=>e=.returned (.tuple #[])∧RdS S w' a s bs (rText bs 64 r).2∧Box w' q (cells.set 4 (.string ⟨(rText bs 64 r).1.toArray⟩)) 188∧Ext (fun b=>b=a.block∨b=q.block) w0 w'):=by
 refine w_F3 (some a) (some q) w0 (fun w'=>RdS S w' a s bs (rText bs 64 r).2∧Box w' q (cells.set 4 (.string ⟨(rText bs 64 r).1.toArray⟩)) 188∧Ext (fun b=>b=a.block∨b=q.block) w0 w') ?_
 unfold m_F3
 refine (c_Text a s bs 64 r w0 h hat hS (by omega)).mono ?_
 rintro e w1 ⟨x,rfl,rfl,hR,hE⟩
 have hq1:=hq.ext hE (fun e=>haq e.symm)
 refine ⟨_,rfl,q,rfl,hq1.canW (i:=4) (by omega),?_⟩
 rintro w2 rfl
 have hx:Ext (·=q.block) w1 (w1.setCell (q.add 4) (.string ⟨(rText bs 64 r).1.toArray⟩)):=ext_set
 exact ⟨hR.ext hx (fun b hb e=>hSq b hb e) haq,hq1.set 4 _,(hE.mono (fun _ _ e=>.inl e)).trans (hx.mono (fun _ _ e=>.inr e))⟩
theorem c_getA:Calls Tryz.prog 122 #[.pointer (some a),.pointer (some q)] w0 (fun e w'=>e=.returned (.tuple #[])∧RdS S w' a s bs (rNum bs r).2∧Box w' q ((cells.set 9 (.int .u64 ((rNum bs r).1:Int))).set 11 (.int .i64 1)) 188∧Ext (fun b=>b=a.block∨b=q.block) w0 w'):=by
 refine w_H3 (some a) (some q) w0 (fun w'=>RdS S w' a s bs (rNum bs r).2∧Box w' q ((cells.set 9 (.int .u64 ((rNum bs r).1:Int))).set 11 (.int .i64 1)) 188∧Ext (fun b=>b=a.block∨b=q.block) w0 w') ?_
 unfold m_H3
 refine (c_RNum a s bs r w0 h hat hS).mono ?_
 rintro e w1 ⟨x,rfl,rfl,hR,hE⟩
 have hq1:=hq.ext hE (fun e=>haq e.symm)
 refine ⟨_,rfl,q,rfl,hq1.canW (i:=9) (by omega),?_⟩
 rintro w2 rfl
 have hx:Ext (·=q.block) w1 ((w1.setCell (q.add 9) (.int .u64 ((rNum bs r).1:Int))).setCell (q.add 11) (.int .i64 1)):=ext_set.trans ext_set
 have hq2:=hq1.set 9 (.int .u64 ((rNum bs r).1:Int))
 refine ⟨q,rfl,hq2.canW (i:=11) (by rw [List.length_set];omega),?_⟩
 rintro w3 rfl
 exact ⟨hR.ext hx (fun b hb e=>hSq b hb e) haq,hq2.set 11 _,(hE.mono (fun _ _ e=>.inl e)).trans (hx.mono (fun _ _ e=>.inr e))⟩
theorem c_getB:Calls Tryz.prog 124 #[.pointer (some a),.pointer (some q)] w0 (fun e w'=>e=.returned (.tuple #[])∧RdS S w' a s bs (rNum bs r).2∧Box w' q ((cells.set 10 (.int .u64 ((rNum bs r).1:Int))).set 11 (.int .i64 2)) 188∧Ext (fun b=>b=a.block∨b=q.block) w0 w'):=by
 refine w_J3 (some a) (some q) w0 (fun w'=>RdS S w' a s bs (rNum bs r).2∧Box w' q ((cells.set 10 (.int .u64 ((rNum bs r).1:Int))).set 11 (.int .i64 2)) 188∧Ext (fun b=>b=a.block∨b=q.block) w0 w') ?_
 unfold m_J3
 refine (c_RNum a s bs r w0 h hat hS).mono ?_
 rintro e w1 ⟨x,rfl,rfl,hR,hE⟩
 have hq1:=hq.ext hE (fun e=>haq e.symm)
 refine ⟨_,rfl,q,rfl,hq1.canW (i:=10) (by omega),?_⟩
 rintro w2 rfl
 have hx:Ext (·=q.block) w1 ((w1.setCell (q.add 10) (.int .u64 ((rNum bs r).1:Int))).setCell (q.add 11) (.int .i64 2)):=ext_set.trans ext_set
 have hq2:=hq1.set 10 (.int .u64 ((rNum bs r).1:Int))
 refine ⟨q,rfl,hq2.canW (i:=11) (by rw [List.length_set];omega),?_⟩
 rintro w3 rfl
 exact ⟨hR.ext hx (fun b hb e=>hSq b hb e) haq,hq2.set 11 _,(hE.mono (fun _ _ e=>.inl e)).trans (hx.mono (fun _ _ e=>.inr e))⟩
end
end Go.Proofs
end
section
namespace Go.Sp
structure Node where
 kind:Int
 frm:Int
 to:Int
 num:Int
 text:ByteArray
 a:Int
 b:Int
deriving DecidableEq
structure Shape where
 frm:Bool
 to:Bool
 num:Bool
 text:Bool
 kids:Int
deriving DecidableEq
def noShape:Shape:=⟨false,false,false,false,0⟩
def shapeOf (k:Int):Shape :=
 if k=1 then ⟨true,false,false,false,0⟩ else if k=2 then ⟨false,false,true,false,0⟩ else if k=3 then ⟨false,false,false,true,0⟩
 else if k=4 then ⟨false,false,false,false,2⟩ else if k=5 then ⟨false,false,false,false,1⟩ else if k=6 then ⟨true,false,false,false,0⟩
 else if k=7 then ⟨true,false,false,false,1⟩ else if k=8 then ⟨true,true,false,false,1⟩ else if k=9 then ⟨true,true,false,false,1⟩ else noShape
def isKind (k:Int):Bool:=decide (1≤k) && decide (k≤9)
def isName (n:Int):Bool:=decide (0≤n) && decide (n<16)
def plainErr (n:Node):Int :=
 let s:=shapeOf n.kind
 if !isKind n.kind || (!s.frm && n.frm != 0) || (!s.to && n.to != 0) || (!s.num && n.num != 0) || (!s.text && !decide (n.text=⟨#[]⟩)) then 53 else 0
def fieldsErr (s:Shape) (n:Node):Int :=
 if (s.frm && !isName n.frm) || (s.to && (!isName n.to || n.to == n.frm)) then 50 else if n.text.size>64 then 1 else 0
end Go.Sp
end
section
namespace Go.Sp
structure Ent where
 node:Node
 size:Int
 depth:Int
deriving DecidableEq
abbrev Pool:=List Ent
def inP (L:Pool) (t:Int):Bool:=decide (1≤t) && decide (t≤L.length)
def get (L:Pool) (t:Int):Option Ent:=if inP L t then L[(t - 1).toNat]? else none
def sizeOf (L:Pool) (t:Int):Int:=((get L t).map (·.size)).getD 0
def depthOf (L:Pool) (t:Int):Int:=((get L t).map (·.depth)).getD 0
def noNode:Node:=⟨0,0,0,0,⟨#[]⟩,0,0⟩
def nodeOf (L:Pool) (t:Int):Node:=((get L t).map (·.node)).getD noNode
def kidsOf (n:Node):List Int:=[n.a,n.b].take (shapeOf n.kind).kids.toNat
def check (L:Pool) (n:Node):Int×Int×Int :=
 let s:=shapeOf n.kind
 if plainErr n≠0 then (0,0,plainErr n)
 else if (decide (s.kids<1) && n.a != 0) || (decide (s.kids<2) && n.b != 0) then (0,0,53)
 else if fieldsErr s n≠0 then (0,0,fieldsErr s n)
 else if (kidsOf n).any (fun t=>!inP L t) then (0,0,51)
 else
  let sz:=1+((kidsOf n).map (sizeOf L)).sum
  let d:=(kidsOf n).foldl (fun d t=>max d (depthOf L t)) 0+1
  if sz>4096∨d>64 then (0,0,52) else (sz,d,0)
def find (L:Pool) (n:Node):Option Nat:=L.findIdx? (fun e=>e.node=n)
def make (L:Pool) (n:Node):Int×Int×Pool :=
 let c:=check L n
 if c.2.2≠0 then (0,c.2.2,L)
 else match find L n with
  | some i=>(i+1,0,L)
  | none=>if 65536≤L.length then (0,6,L) else (L.length+1,0,L++[⟨n,c.1,c.2.1⟩])
structure Ok (L:Pool):Prop where
 few:L.length≤65536
 nodup:(L.map (·.node)).Nodup
 size:∀e∈L,1≤e.size∧e.size≤4096
 depth:∀e∈L,1≤e.depth∧e.depth≤64
theorem inP_iff {L:Pool} {t:Int}:inP L t=true↔1≤t∧t≤L.length:=by simp [inP]
theorem get_some {L:Pool} {t:Int} (h:inP L t=true):∃e,get L t=some e∧e∈L∧∃hi:(t - 1).toNat<L.length,L[(t - 1).toNat]=e:=by
 obtain ⟨h1,h2⟩:=inP_iff.1 h
 have hi:(t - 1).toNat<L.length:=by omega
 exact ⟨L[(t - 1).toNat],by simp [get,h],List.getElem_mem hi,hi,rfl⟩
theorem get_none {L:Pool} {t:Int} (h:inP L t=false):get L t=none:=by simp [get,h]
theorem Ok.sizeOf {L:Pool} (h:Ok L) (t:Int):0≤sizeOf L t∧sizeOf L t≤4096:=by
 cases ht:inP L t with
 | true=>obtain ⟨e,he,hm,_⟩:=get_some ht;have:=h.size e hm;simp [Sp.sizeOf,he];omega
 | false=>simp [Sp.sizeOf,get_none ht]
theorem Ok.depthOf {L:Pool} (h:Ok L) (t:Int):0≤depthOf L t∧depthOf L t≤64:=by
 cases ht:inP L t with
 | true=>obtain ⟨e,he,hm,_⟩:=get_some ht;have:=h.depth e hm;simp [Sp.depthOf,he];omega
 | false=>simp [Sp.depthOf,get_none ht]
theorem Ok.nil:Ok []:=⟨by simp,by simp,by simp,by simp⟩
theorem kids_le (k:Int):(shapeOf k).kids=0∨(shapeOf k).kids=1∨(shapeOf k).kids=2:=by
 unfold shapeOf noShape;repeat' split
 all_goals simp
end Go.Sp
end
section
namespace Go.Sp
inductive Tree where
 | mk (k f t u:Int) (x:ByteArray) (kids:List Tree)
def Tree.kids:Tree→List Tree | .mk _ _ _ _ _ ks=>ks
def Tree.node:Tree→Node | .mk k f t u x _=>⟨k,f,t,u,x,0,0⟩
theorem Tree.ind {P:Tree→Prop} (h:∀k f t u x (ks:List Tree),(∀i (hi:i<ks.length),P ks[i])→P (.mk k f t u x ks)) (t:Tree):P t:=by
 refine Tree.rec (motive_1:=P) (motive_2:=fun ks=>∀i (hi:i<ks.length),P ks[i]) ?_ ?_ ?_ t
 ·intro k f t u x ks ih;exact h _ _ _ _ _ _ ih
 ·intro i hi;simp at hi
 ·intro t ks ht hks i hi
  cases i with
  | zero=>exact ht
  | succ i=>exact hks i (by simpa using hi)
def ownErr (n:Node) (len:Nat):Int :=
 let e:=if plainErr n=0 then if (len:Int)≠(shapeOf n.kind).kids then 53 else 0 else plainErr n
 if e=0 then fieldsErr (shapeOf n.kind) n else e
mutual
def looks (inside seen:Int):Tree→Int×Int
 | .mk k f t u x ks=>if 4096≤seen then (52,seen) else if 64≤inside then (52,seen) else looksAll (inside+1) (ownErr ⟨k,f,t,u,x,0,0⟩ ks.length) (seen+1) ks
def looksAll (inside e seen:Int):List Tree→Int×Int
 | []=>(e,seen)
 | t :: ts=>if e=0 then looksAll inside (looks inside seen t).1 (looks inside seen t).2 ts else (e,seen)
end
mutual
def grow (L:Pool):Tree→Int×Int×Pool
 | .mk k f t u x ks=>growAll ⟨k,f,t,u,x,0,0⟩ 0 L ks
def growAll (n:Node) (i:Nat) (L:Pool):List Tree→Int×Int×Pool
 | []=>make L n
 | t :: ts=>if (grow L t).2.1≠0 then (0,(grow L t).2.1,(grow L t).2.2) else growAll (if i=0 then { n with a:=(grow L t).1 } else { n with b:=(grow L t).1 }) (i+1) (grow L t).2.2 ts
end
def of (L:Pool) (t:Tree):Int×Int×Pool :=
 if (looks 0 0 t).1≠0 then (0,(looks 0 0 t).1,L)
 else if (grow L t).2.1≠0 then (0,(grow L t).2.1,L) else ((grow L t).1,0,(grow L t).2.2)
theorem make_grows (L:Pool) (n:Node):∃M,(make L n).2.2=L++M:=by
 unfold make
 simp only
 by_cases hc:(check L n).2.2=0
 ·simp only [hc]
  rw [if_neg (by simp)]
  split
  ·exact ⟨[],by simp⟩
  ·split
   ·exact ⟨[],by simp⟩
   ·exact ⟨_,rfl⟩
 ·rw [if_pos hc];exact ⟨[],by simp⟩
theorem check_ok {L:Pool} {n:Node} (hok:Ok L) (h:(check L n).2.2=0):1≤(check L n).1∧(check L n).1≤4096∧1≤(check L n).2.1∧(check L n).2.1≤64:=by
 unfold check at h ⊢
 simp only at h ⊢
 by_cases h1:plainErr n≠0
 ·rw [if_pos h1] at h;exact absurd h h1
 rw [if_neg h1] at h ⊢
 split at h
 ·simp at h
 rename_i h2;rw [if_neg h2]
 by_cases h3:fieldsErr (shapeOf n.kind) n≠0
 ·rw [if_pos h3] at h;exact absurd h h3
 rw [if_neg h3] at h ⊢
 split at h
 ·simp at h
 rename_i h4;rw [if_neg h4]
 split at h
 ·simp at h
 rename_i h5;rw [if_neg h5]
 have hs:∀l:List Int,0≤(l.map (sizeOf L)).sum:=by
  intro l
  induction l with
  | nil=>simp
  | cons y l ih=>have:=hok.sizeOf y;simp only [List.map_cons,List.sum_cons];omega
 have hd:∀(l:List Int) (d:Int),0≤d→0≤l.foldl (fun d t=>max d (depthOf L t)) d:=by
  intro l
  induction l with
  | nil=>intro d h;exact h
  | cons y l ih=>intro d h;exact ih (max d (depthOf L y)) (by omega)
 have:=hs (kidsOf n)
 have:=hd (kidsOf n) 0 (by omega)
 simp only
 omega
theorem make_ok {L:Pool} (hok:Ok L) (n:Node):Ok (make L n).2.2:=by
 by_cases hc:(check L n).2.2=0
 ·have:=check_ok hok hc
  unfold make
  simp only [hc]
  rw [if_neg (by simp)]
  split
  ·exact hok
  ·rename_i hf
   split
   ·exact hok
   ·rename_i hl
    refine ⟨by simp;omega,?_,?_,?_⟩
    ·rw [List.map_append,List.nodup_append]
     refine ⟨hok.nodup,by simp,?_⟩
     intro a ha b hb
     simp only [List.map_cons,List.map_nil,List.mem_singleton] at hb
     subst hb
     obtain ⟨e,he,rfl⟩:=List.mem_map.1 ha
     unfold find at hf
     rw [List.findIdx?_eq_none_iff] at hf
     simpa using hf e he
    ·intro e he
     rcases List.mem_append.1 he with h | h
     ·exact hok.size e h
     ·simp only [List.mem_singleton] at h;subst h;simp;omega
    ·intro e he
     rcases List.mem_append.1 he with h | h
     ·exact hok.depth e h
     ·simp only [List.mem_singleton] at h;subst h;simp;omega
 ·unfold make
  simp only
  rw [if_pos hc];exact hok
theorem grow_facts (t:Tree):∀L,Ok L→Ok (grow L t).2.2∧∃M,(grow L t).2.2=L++M:=by
 induction t using Tree.ind with
 | h k f t u x ks ih =>
  have:∀(ks:List Tree),(∀i (hi:i<ks.length),∀L,Ok L→Ok (grow L ks[i]).2.2∧∃M,(grow L ks[i]).2.2=L++M)→∀n i L,Ok L→Ok (growAll n i L ks).2.2∧∃M,(growAll n i L ks).2.2=L++M:=by
   intro ks
   induction ks with
   | nil=>intro _ n i L h;unfold growAll;exact ⟨make_ok h n,make_grows L n⟩
   | cons t ts iht =>
    intro hh n i L h
    have h0:=hh 0 (by simp) L h
    simp only [List.getElem_cons_zero] at h0
    unfold growAll
    split
    ·exact h0
    ·obtain ⟨ho,M,hM⟩:=h0
     have:=iht (fun i hi=>hh (i+1) (by simpa using hi)) (if i=0 then { n with a:=(grow L t).1 } else { n with b:=(grow L t).1 }) (i+1) (grow L t).2.2 ho
     refine ⟨this.1,?_⟩
     obtain ⟨M2,hM2⟩:=this.2
     exact ⟨M++M2,by rw [hM2,hM,List.append_assoc]⟩
  intro L h
  unfold grow
  exact this ks ih _ _ L h
def isNum (n:Int):Prop:=0≤n∧n<18446744073709551616
inductive NumT:Tree→Prop
 | mk (k f t u:Int) (x:ByteArray) (ks:List Tree) (own:isNum u) (kids:∀i (hi:i<ks.length),NumT ks[i]):NumT (.mk k f t u x ks)
end Go.Sp
end
section
namespace Go.Sp
theorem nodeOf_lt {L:Pool} {i:Nat} (hi:i<L.length):nodeOf L ((i:Int)+1)=L[i].node:=by
 have h:inP L ((i:Int)+1)=true:=inP_iff.2 ⟨by omega,by omega⟩
 have e:((i:Int)+1 - 1).toNat=i:=by omega
 simp [nodeOf,get,h,e,hi]
theorem inP_at {L:Pool} {t:Int} (h:inP L t=true):∃i:Nat,i<L.length∧t=(i:Int)+1:=by
 have:=inP_iff.1 h
 exact ⟨(t - 1).toNat,by omega,by omega⟩
theorem get_at {L:Pool} {i:Nat} (hi:i<L.length):get L ((i:Int)+1)=some L[i]:=by
 have h:inP L ((i:Int)+1)=true:=inP_iff.2 ⟨by omega,by omega⟩
 have e:((i:Int)+1 - 1).toNat=i:=by omega
 simp [get,h,e,hi]
structure Wf (L:Pool):Prop where
 ok:Ok L
 each:∀i (hi:i<L.length),check (L.take i) L[i].node=(L[i].size,L[i].depth,0)
theorem Wf.nil:Wf []:=⟨Ok.nil,fun i hi=>by simp at hi⟩
theorem check_zero {L : Pool} {n : Node} (h : (check L n).2.2 = 0) : plainErr n = 0 ∧ ((shapeOf n.kind).kids < 1 → n.a = 0) ∧ ((shapeOf n.kind).kids < 2 → n.b = 0) ∧ fieldsErr (shapeOf n.kind) n = 0 ∧ (∀ t ∈ kidsOf n, inP L t = true) ∧
  (check L n).1=1+((kidsOf n).map (sizeOf L)).sum∧(check L n).2.1=(kidsOf n).foldl (fun d t=>max d (depthOf L t)) 0+1∧(check L n).1≤4096∧(check L n).2.1≤64:=by
 unfold check at h ⊢
 simp only at h ⊢
 by_cases h1:plainErr n≠0
 ·rw [if_pos h1] at h;exact absurd h h1
 rw [if_neg h1] at h ⊢
 split at h
 ·simp at h
 rename_i h2;rw [if_neg h2]
 by_cases h3:fieldsErr (shapeOf n.kind) n≠0
 ·rw [if_pos h3] at h;exact absurd h h3
 rw [if_neg h3] at h ⊢
 split at h
 ·simp at h
 rename_i h4;rw [if_neg h4]
 split at h
 ·simp at h
 rename_i h5;rw [if_neg h5]
 simp only [Bool.or_eq_true,Bool.and_eq_true,decide_eq_true_eq,bne_iff_ne,ne_eq,not_or,not_and,Classical.not_not] at h2
 refine ⟨by simpa using h1,h2.1,h2.2,by simpa using h3,fun t ht=>?_,rfl,rfl,by simp only;omega,by simp only;omega⟩
 cases hi:inP L t with
 | true=>rfl
 | false=>exact absurd (List.any_eq_true.2 ⟨t,ht,by simp [hi]⟩) h4
theorem make_pool (L:Pool) (n:Node):(make L n).2.2=L∨((check L n).2.2=0∧(make L n).2.2=L++[⟨n,(check L n).1,(check L n).2.1⟩]):=by
 by_cases hc:(check L n).2.2=0
 ·unfold make
  simp only [hc]
  rw [if_neg (by simp)]
  split
  ·exact .inl rfl
  ·split
   ·exact .inl rfl
   ·exact .inr ⟨trivial,rfl⟩
 ·unfold make;simp only;rw [if_pos hc];exact .inl rfl
theorem snoc_each {L:Pool} {e:Ent} (h:∀i (hi:i<L.length),check (L.take i) L[i].node=(L[i].size,L[i].depth,0)) (he:check L e.node=(e.size,e.depth,0)):∀i (hi:i<(L++[e]).length),check ((L++[e]).take i) (L++[e])[i].node=((L++[e])[i].size,(L++[e])[i].depth,0):=by
 intro i hi
 simp only [List.length_append,List.length_cons,List.length_nil] at hi
 by_cases hlt:i<L.length
 ·simp only [List.getElem_append_left hlt]
  rw [List.take_append_of_le_length (by omega)]
  exact h i hlt
 ·have:i=L.length:=by omega
  subst this
  simp only [List.getElem_append_right (Nat.le_refl _),Nat.sub_self,List.getElem_cons_zero]
  rw [List.take_left' rfl]
  exact he
theorem make_wf {L:Pool} (h:Wf L) (n:Node):Wf (make L n).2.2:=by
 have ho:=make_ok h.ok n
 rcases make_pool L n with e | ⟨hc,e⟩
 ·rw [e];exact h
 ·rw [e] at ho ⊢
  exact ⟨ho,snoc_each h.each (by rw [← hc])⟩
theorem grow_wf (t:Tree):∀L,Wf L→Wf (grow L t).2.2:=by
 induction t using Tree.ind with
 | h k f t u x ks ih =>
  have:∀(ks:List Tree),(∀i (hi:i<ks.length),∀L,Wf L→Wf (grow L ks[i]).2.2)→∀n i L,Wf L→Wf (growAll n i L ks).2.2:=by
   intro ks
   induction ks with
   | nil=>intro _ n i L h;unfold growAll;exact make_wf h n
   | cons t ts iht =>
    intro hh n i L h
    have h0:=hh 0 (by simp) L h
    simp only [List.getElem_cons_zero] at h0
    unfold growAll
    split
    ·exact h0
    ·exact iht (fun i hi=>hh (i+1) (by simpa using hi)) _ _ _ h0
  intro L h
  unfold grow
  exact this ks ih _ _ L h
theorem of_wf {L:Pool} (h:Wf L) (t:Tree):Wf (of L t).2.2:=by
 unfold of
 split
 ·exact h
 ·split
  ·exact h
  ·exact grow_wf t L h
theorem inP_app {L M:Pool} {t:Int} (h:inP L t=true):inP (L++M) t=true:=by
 have:=inP_iff.1 h
 exact inP_iff.2 ⟨this.1,by rw [List.length_append];omega⟩
theorem get_app {L M:Pool} {t:Int} (h:inP L t=true):get (L++M) t=get L t:=by
 obtain ⟨i,hi,rfl⟩:=inP_at h
 rw [get_at hi,get_at (by rw [List.length_append];omega),List.getElem_append_left hi]
theorem nodeOf_app {L M:Pool} {t:Int} (h:inP L t=true):nodeOf (L++M) t=nodeOf L t:=by unfold nodeOf;rw [get_app h]
theorem sizeOf_app {L M:Pool} {t:Int} (h:inP L t=true):sizeOf (L++M) t=sizeOf L t:=by unfold sizeOf;rw [get_app h]
theorem depthOf_app {L M:Pool} {t:Int} (h:inP L t=true):depthOf (L++M) t=depthOf L t:=by unfold depthOf;rw [get_app h]
theorem Wf.node {L : Pool} (h : Wf L) {t : Int} (ht : inP L t = true) : plainErr (nodeOf L t) = 0 ∧ ((shapeOf (nodeOf L t).kind).kids < 1 → (nodeOf L t).a = 0) ∧ ((shapeOf (nodeOf L t).kind).kids < 2 → (nodeOf L t).b = 0) ∧ fieldsErr (shapeOf (nodeOf L t).kind) (nodeOf L t) = 0 ∧
  (∀k∈kidsOf (nodeOf L t),inP L k=true∧k<t)∧sizeOf L t=1+((kidsOf (nodeOf L t)).map (sizeOf L)).sum∧depthOf L t=(kidsOf (nodeOf L t)).foldl (fun d k=>max d (depthOf L k)) 0+1:=by
 obtain ⟨i,hi,rfl⟩:=inP_at ht
 have he:=h.each i hi
 have hz:=check_zero (L:=L.take i) (n:=L[i].node) (by rw [he])
 rw [nodeOf_lt hi]
 obtain ⟨h1,h2,h3,h4,h5,h6,h7,_,_⟩:=hz
 have hin:∀k∈kidsOf L[i].node,inP (L.take i) k=true∧inP L k=true∧k<(i:Int)+1:=by
  intro k hk
  have hk':=h5 k hk
  have hk2:=inP_iff.1 hk'
  have:L.take i++L.drop i=L:=List.take_append_drop i L
  refine ⟨hk',by rw [← this];exact inP_app hk',?_⟩
  rw [List.length_take] at hk2;omega
 have hsz:∀k∈kidsOf L[i].node,sizeOf (L.take i) k=sizeOf L k∧depthOf (L.take i) k=depthOf L k:=by
  intro k hk
  have hk':=(hin k hk).1
  have:L.take i++L.drop i=L:=List.take_append_drop i L
  exact ⟨by rw [← sizeOf_app (M:=L.drop i) hk',this],by rw [← depthOf_app (M:=L.drop i) hk',this]⟩
 refine ⟨h1,h2,h3,h4,fun k hk=>⟨(hin k hk).2.1,(hin k hk).2.2⟩,?_,?_⟩
 ·have:sizeOf L ((i:Int)+1)=L[i].size:=by simp [sizeOf,get_at hi]
  rw [this]
  rw [he] at h6
  simp only at h6
  rw [h6]
  congr 2
  exact List.map_congr_left (fun k hk=>(hsz k hk).1)
 ·have:depthOf L ((i:Int)+1)=L[i].depth:=by simp [depthOf,get_at hi]
  rw [this]
  rw [he] at h7
  simp only at h7
  rw [h7]
  congr 1
  have:∀(l:List Int) (d:Int),(∀k∈l,depthOf (L.take i) k=depthOf L k)→l.foldl (fun d t=>max d (depthOf (L.take i) t)) d=l.foldl (fun d k=>max d (depthOf L k)) d:=by
   intro l
   induction l with
   | nil=>intro d _;rfl
   | cons a l ih=>intro d hh;simp only [List.foldl_cons];rw [hh a (by simp)];exact ih _ (fun k hk=>hh k (by simp [hk]))
  exact this _ _ (fun k hk=>(hsz k hk).2)
def noTree:Tree:=.mk 0 0 0 0 ⟨#[]⟩ []
def treeF (L:Pool):Nat→Int→Tree
 | 0,_=>noTree
 | fuel+1,t=>if inP L t=true then .mk (nodeOf L t).kind (nodeOf L t).frm (nodeOf L t).to (nodeOf L t).num (nodeOf L t).text ((kidsOf (nodeOf L t)).map (treeF L fuel)) else noTree
def treeOf (L:Pool) (t:Int):Tree:=treeF L t.toNat t
theorem treeF_none {L:Pool} {t:Int} (h:inP L t=false) (f:Nat):treeF L f t=noTree:=by
 cases f <;> simp [treeF,h]
theorem treeF_fuel {L:Pool} (h:Wf L):∀(f:Nat) (t:Int),t.toNat≤f→treeF L f t=treeOf L t:=by
 have key:∀(f g:Nat) (t:Int),t.toNat≤f→t.toNat≤g→treeF L f t=treeF L g t:=by
  intro f
  induction f with
  | zero =>
   intro g t hf hg
   have:inP L t=false:=by
    apply Bool.eq_false_iff.2;intro hi;have:=inP_iff.1 hi;omega
   rw [treeF_none this,treeF_none this]
  | succ f ih =>
   intro g t hf hg
   cases hi:inP L t with
   | false=>rw [treeF_none hi,treeF_none hi]
   | true =>
    have hpos:=inP_iff.1 hi
    cases g with
    | zero=>omega
    | succ g =>
     simp only [treeF,hi,if_true]
     congr 1
     refine List.map_congr_left (fun k hk=>ih g k ?_ ?_)
     ·have:=((h.node hi).2.2.2.2.1 k hk).2;omega
     ·have:=((h.node hi).2.2.2.2.1 k hk).2;omega
 intro f t hf
 exact key f t.toNat t hf (Nat.le_refl _)
theorem treeOf_none {L:Pool} {t:Int} (h:inP L t=false):treeOf L t=noTree:=treeF_none h _
theorem treeOf_in {L:Pool} (h:Wf L) {t:Int} (ht:inP L t=true):treeOf L t=.mk (nodeOf L t).kind (nodeOf L t).frm (nodeOf L t).to (nodeOf L t).num (nodeOf L t).text ((kidsOf (nodeOf L t)).map (treeOf L)):=by
 have hpos:=inP_iff.1 ht
 have e:t.toNat=(t.toNat - 1)+1:=by omega
 unfold treeOf
 rw [e]
 simp only [treeF,ht,if_true]
 congr 1
 refine List.map_congr_left (fun k hk=>?_)
 have:=((h.node ht).2.2.2.2.1 k hk).2
 exact treeF_fuel h _ k (by omega)
theorem Wf.first {L M:Pool} (h:Wf (L++M)):Wf L:=by
 refine ⟨⟨by have:=h.ok.few;rw [List.length_append] at this;omega,?_,fun e he=>h.ok.size e (by simp [he]),fun e he=>h.ok.depth e (by simp [he])⟩,fun i hi=>?_⟩
 ·have:=h.ok.nodup;rw [List.map_append] at this;exact (List.nodup_append.1 this).1
 ·have:=h.each i (by rw [List.length_append];omega)
  rw [List.getElem_append_left hi,List.take_append_of_le_length (by omega)] at this
  exact this
theorem treeOf_app {L M:Pool} (h:Wf (L++M)):∀(n:Nat) (t:Int),t.toNat=n→inP L t=true→treeOf (L++M) t=treeOf L t:=by
 have hL:=h.first
 intro n
 induction n using Nat.strongRecOn with
 | _ n ih =>
  intro t hn ht
  rw [treeOf_in h (inP_app ht),treeOf_in hL ht,nodeOf_app ht]
  congr 1
  refine List.map_congr_left (fun k hk=>?_)
  have hk':=(hL.node ht).2.2.2.2.1 k hk
  have:=inP_iff.1 hk'.1
  exact ih k.toNat (by omega) k rfl hk'.1
end Go.Sp
end
section
namespace Go.Sp
def showsK (k:Int):Bool:=k == 7 || k == 8 || k == 9
def freeK (k:Int):Bool:=k == 1 || k == 2 || k == 3
def keyNode (n:Int):Node:=⟨6,n,0,0,⟨#[]⟩,0,0⟩
def whoOf (n:Node):Int:=if n.kind=9 then n.to else n.frm
def Arises (L:Pool) (r u t:Int):Prop :=
 (r=1∧(nodeOf L u).kind=4∧(nodeOf L u).a=t)∨(r=2∧(nodeOf L u).kind=4∧(nodeOf L u).b=t)∨(r=3∧showsK (nodeOf L u).kind=true∧(nodeOf L u).a=t)
inductive Seen (L:Pool) (G:List Int):Int→Prop
 | given {t:Int}:t∈G→Seen L G t
 | «from» {r u t:Int}:Seen L G u→Arises L r u t→Seen L G t
inductive Drv (L:Pool) (K:Int→Prop):Int→Prop
 | seen {t:Int}:K t→Drv L K t
 | free {t:Int}:freeK (nodeOf L t).kind=true→Drv L K t
 | pair {t:Int}:(nodeOf L t).kind=4→Drv L K (nodeOf L t).a→Drv L K (nodeOf L t).b→Drv L K t
 | hash {t:Int}:(nodeOf L t).kind=5→Drv L K (nodeOf L t).a→Drv L K t
 | sign {t:Int} {i:Nat}:showsK (nodeOf L t).kind=true→Drv L K (nodeOf L t).a→find L (keyNode (whoOf (nodeOf L t)))=some i→K ((i:Int)+1)→Drv L K t
structure Way where
 t:Int
 rule:Int
 frm:Int
deriving DecidableEq
def wkeys (S:List Way):List Int:=S.map Way.t
def WayOk (L:Pool) (G:List Int) (pre:List Way) (v:Way):Prop:=(v.rule=0∧v.frm=0∧v.t∈G)∨(v.rule≠0∧Arises L v.rule v.frm v.t∧v.frm∈wkeys pre)
structure WaysOk (L:Pool) (G:List Int) (S:List Way):Prop where
 nodup:(wkeys S).Nodup
 inp:∀t∈wkeys S,inP L t=true
 way:∀i (h:i<S.length),WayOk L G (S.take i) S[i]
def Shown (L:Pool) (S:List Way) (u:Int):Prop:=∀r t,Arises L r u t→t∈wkeys S
theorem wkeys_len (S:List Way):(wkeys S).length=S.length:=by simp [wkeys]
theorem WayOk.mono {L:Pool} {G G':List Int} {pre:List Way} {v:Way} (h:WayOk L G pre v) (hG:∀t∈G,t∈G'):WayOk L G' pre v:=by
 rcases h with ⟨a,b,c⟩ | h
 ·exact .inl ⟨a,b,hG _ c⟩
 ·exact .inr h
theorem WaysOk.mono {L:Pool} {G G':List Int} {S:List Way} (h:WaysOk L G S) (hG:∀t∈G,t∈G'):WaysOk L G' S:=⟨h.nodup,h.inp,fun i hi=>(h.way i hi).mono hG⟩
theorem WaysOk.snoc {L:Pool} {G:List Int} {S:List Way} (h:WaysOk L G S) {v:Way} (hn:v.t ∉ wkeys S) (hi:inP L v.t=true) (hv:WayOk L G S v):WaysOk L G (S++[v]):=by
 refine ⟨?_,?_,fun i hlt=>?_⟩
 ·unfold wkeys at hn ⊢
  rw [List.map_append,List.nodup_append]
  exact ⟨h.nodup,by simp,fun x hx y hy e=>by simp at hy;subst hy;exact hn (e▸hx)⟩
 ·intro t ht
  unfold wkeys at ht
  rw [List.map_append,List.mem_append] at ht
  rcases ht with ht | ht
  ·exact h.inp t ht
  ·simp at ht;rw [ht];exact hi
 ·rw [List.length_append] at hlt
  simp only [List.length_cons,List.length_nil] at hlt
  by_cases hl:i<S.length
  ·rw [List.getElem_append_left hl,List.take_append_of_le_length (by omega)];exact h.way i hl
  ·have:i=S.length:=by omega
   subst this
   rw [List.getElem_append_right (Nat.le_refl _),List.take_left]
   simpa using hv
theorem Shown.snoc {L:Pool} {S:List Way} {u:Int} {v:Way} (h:Shown L S u):Shown L (S++[v]) u:=fun r t ha=>by
 unfold wkeys;rw [List.map_append];exact List.mem_append_left _ (h r t ha)
theorem Seen.mono {L:Pool} {G G':List Int} (hG:∀t∈G,t∈G') {t:Int} (h:Seen L G t):Seen L G' t:=by
 induction h with
 | given hg=>exact .given (hG _ hg)
 | «from» _ ha ih=>exact .from ih ha
theorem Drv.mono {L:Pool} {K K':Int→Prop} (hK:∀t,K t→K' t) {t:Int} (h:Drv L K t):Drv L K' t:=by
 induction h with
 | seen h=>exact .seen (hK _ h)
 | free h=>exact .free h
 | pair h _ _ iha ihb=>exact .pair h iha ihb
 | hash h _ ih=>exact .hash h ih
 | sign h _ hf hk ih=>exact .sign h ih hf (hK _ hk)
structure Step where
 rule:Int
 a:Int
 b:Int
 t:Int
deriving DecidableEq
def ahead (i:Nat) (v:Int):Bool:=decide (0≤v) && decide (v<i)
def tAt (pre:List Step) (v:Int):Int:=(pre[v.toNat]?.map Step.t).getD 0
def arisesB (L:Pool) (r u t:Int):Bool :=
 if r=1 then (nodeOf L u).kind == 4 && (nodeOf L u).a == t else if r=2 then (nodeOf L u).kind == 4 && (nodeOf L u).b == t else showsK (nodeOf L u).kind && (nodeOf L u).a == t
def fol (L:Pool) (G:List Int) (pre:List Step) (s:Step):Bool :=
 if inP L s.t=false then false
 else if s.rule=0 then s.a == 0 && s.b == 0 && decide (s.t∈G)
 else if s.rule=1∨s.rule=2∨s.rule=3 then ahead pre.length s.a && s.b == 0 && arisesB L s.rule (tAt pre s.a) s.t
 else if s.rule=4 then s.a == 0 && s.b == 0 && freeK (nodeOf L s.t).kind
 else if s.rule=5 then
  if (nodeOf L s.t).kind=4 then ahead pre.length s.a && ahead pre.length s.b && tAt pre s.a == (nodeOf L s.t).a && tAt pre s.b == (nodeOf L s.t).b
  else if (nodeOf L s.t).kind=5 then ahead pre.length s.a && s.b == 0 && tAt pre s.a == (nodeOf L s.t).a
  else if showsK (nodeOf L s.t).kind=true then ahead pre.length s.a && ahead pre.length s.b && tAt pre s.a == (nodeOf L s.t).a && (nodeOf L (tAt pre s.b)).kind == 6 && (nodeOf L (tAt pre s.b)).frm == whoOf (nodeOf L s.t)
  else false
 else false
end Go.Sp
namespace Go.Sp
theorem nodup_few {α:Type} [DecidableEq α]:∀{l m:List α},l.Nodup→(∀x∈l,x∈m)→l.length≤m.length
 | [],m,_,_=>by simp
 | x :: l,m,hn,hs=>by
  have hx:=hs x (by simp)
  rw [List.nodup_cons] at hn
  have:=nodup_few (m:=m.erase x) hn.2 (fun y hy=>(List.mem_erase_of_ne (fun h=>hn.1 (by rw [← h];exact hy))).2 (hs y (List.mem_cons_of_mem _ hy)))
  rw [List.length_erase_of_mem hx] at this
  have:=List.length_pos_of_mem hx
  simp only [List.length_cons];omega
theorem pool_few {L:Pool} {l:List Int} (hn:l.Nodup) (hi:∀t∈l,inP L t=true):l.length≤L.length:=by
 have:=nodup_few (m:=(List.range L.length).map fun i:Nat=>(i:Int)+1) hn (fun t ht=>by
  obtain ⟨i,h1,h2⟩:=inP_at (hi t ht)
  exact List.mem_map.2 ⟨i,List.mem_range.2 h1,h2.symm⟩)
 simpa using this
theorem WaysOk.few {L:Pool} {G:List Int} {S:List Way} (h:WaysOk L G S):S.length≤L.length:=by
 have:=pool_few h.nodup h.inp
 rwa [wkeys_len] at this
theorem kids4 {L:Pool} (h:Wf L) {t:Int} (ht:inP L t=true) (hk:(nodeOf L t).kind=4):(inP L (nodeOf L t).a=true∧(nodeOf L t).a<t)∧(inP L (nodeOf L t).b=true∧(nodeOf L t).b<t):=by
 have:=(h.node ht).2.2.2.2.1
 simp only [kidsOf,hk,shapeOf] at this
 exact ⟨this _ (by simp),this _ (by simp)⟩
theorem kids7 {L:Pool} (h:Wf L) {t:Int} (ht:inP L t=true) (hk:showsK (nodeOf L t).kind=true):inP L (nodeOf L t).a=true∧(nodeOf L t).a<t:=by
 have:=(h.node ht).2.2.2.2.1
 simp only [showsK,Bool.or_eq_true,beq_iff_eq] at hk
 rcases hk with (hk | hk) | hk <;> simp only [kidsOf,hk,shapeOf] at this <;> exact this _ (by simp)
theorem Arises.inp {L:Pool} (h:Wf L) {r u t:Int} (hu:inP L u=true) (ha:Arises L r u t):inP L t=true∧t<u:=by
 rcases ha with ⟨_,hk,rfl⟩ | ⟨_,hk,rfl⟩ | ⟨_,hk,rfl⟩
 ·exact (kids4 h hu hk).1
 ·exact (kids4 h hu hk).2
 ·exact kids7 h hu hk
def addWay (S:List Way) (v:Way):List Way:=if v.t∈wkeys S then S else S++[v]
theorem WaysOk.add {L:Pool} {G:List Int} {S:List Way} (h:WaysOk L G S) {v:Way} (hi:inP L v.t=true) (hv:WayOk L G S v):WaysOk L G (addWay S v):=by
 unfold addWay;split
 ·exact h
 ·rename_i hn;exact h.snoc hn hi hv
end Go.Sp
end
section
open Go.SE
namespace Go.Sp
def keyOf (L:Pool) (n:Int):Int×Bool:=match find L (keyNode n) with
 | some i=>((i:Int)+1,true)
 | none=>(0,false)
theorem find_node {L:Pool} {n:Node} {i:Nat} (h:find L n=some i):i<L.length∧nodeOf L ((i:Int)+1)=n:=by
 unfold find at h
 rw [List.findIdx?_eq_some_iff_getElem] at h
 obtain ⟨hi,h1,_⟩:=h
 refine ⟨hi,?_⟩
 rw [nodeOf_lt hi];simpa using h1
theorem keyOf_ok {L:Pool} {n:Int} (h:(keyOf L n).2=true):inP L (keyOf L n).1=true∧nodeOf L (keyOf L n).1=keyNode n∧∃i,find L (keyNode n)=some i∧(keyOf L n).1=(i:Int)+1:=by
 unfold keyOf at h ⊢
 cases hf:find L (keyNode n) with
 | none=>rw [hf] at h;cases h
 | some i =>
  obtain ⟨hi,hn⟩:=find_node hf
  exact ⟨inP_iff.2 ⟨by simp only;omega,by simp only;omega⟩,hn,i,rfl,rfl⟩
theorem Drv.signed {L:Pool} {K:Int→Prop} {t:Int} (h:showsK (nodeOf L t).kind=true) (ha:Drv L K (nodeOf L t).a) (hk:(keyOf L (whoOf (nodeOf L t))).2=true) (hK:K (keyOf L (whoOf (nodeOf L t))).1):Drv L K t:=by
 obtain ⟨_,_,i,hf,e⟩:=keyOf_ok hk
 rw [e] at hK
 exact .sign h ha hf hK
theorem kind_cases {L:Pool} (h:Wf L) {t:Int} (ht:inP L t=true):freeK (nodeOf L t).kind=true∨(nodeOf L t).kind=4∨(nodeOf L t).kind=5∨(nodeOf L t).kind=6∨showsK (nodeOf L t).kind=true:=by
 have h1:=(h.node ht).1
 unfold plainErr at h1
 simp only at h1
 split at h1
 ·cases h1
 ·rename_i hh
  simp only [Bool.or_eq_true,Bool.not_eq_true',not_or] at hh
  have hk:isKind (nodeOf L t).kind=true:=by simpa using hh.1.1.1.1
  simp only [isKind,Bool.and_eq_true,decide_eq_true_eq] at hk
  simp only [freeK,showsK,Bool.or_eq_true,beq_iff_eq]
  omega
inductive Sub (L:Pool):Int→Int→Prop
 | refl (t:Int):Sub L t t
 | kid {t u k:Int}:Sub L t u→k∈kidsOf (nodeOf L u)→Sub L t k
theorem Sub.trans {L:Pool} {a b c:Int} (h:Sub L a b) (k:Sub L b c):Sub L a c:=by
 induction k with
 | refl=>exact h
 | kid _ hk ih=>exact .kid ih hk
theorem kids_a {n:Node} (h:n.kind=4∨n.kind=5∨showsK n.kind=true):n.a∈kidsOf n:=by
 simp only [showsK,Bool.or_eq_true,beq_iff_eq] at h
 rcases h with h | h | (h | h) | h <;> simp [kidsOf,h,shapeOf]
theorem kids_b {n:Node} (h:n.kind=4):n.b∈kidsOf n:=by simp [kidsOf,h,shapeOf]
theorem Arises.sub {L:Pool} {r u t:Int} (h:Arises L r u t):Sub L u t:=by
 rcases h with ⟨_,hk,rfl⟩ | ⟨_,hk,rfl⟩ | ⟨_,hk,rfl⟩
 ·exact .kid (.refl u) (kids_a (.inl hk))
 ·exact .kid (.refl u) (kids_b hk)
 ·exact .kid (.refl u) (kids_a (.inr (.inr hk)))
theorem Seen.sub {L:Pool} {G:List Int} {t:Int} (h:Seen L G t):∃g∈G,Sub L g t:=by
 induction h with
 | given hg=>exact ⟨_,hg,.refl _⟩
 | «from» _ ha ih=>obtain ⟨g,hg,hs⟩:=ih;exact ⟨g,hg,hs.trans ha.sub⟩
def rank (S:List Way) (t:Int):Nat:=(wkeys S).idxOf t+if t∈wkeys S then 0 else t.toNat
theorem Arises.rule {L:Pool} {r u t:Int} (h:Arises L r u t):r=1∨r=2∨r=3:=by
 rcases h with ⟨h,_⟩ | ⟨h,_⟩ | ⟨h,_⟩
 ·exact .inl h
 ·exact .inr (.inl h)
 ·exact .inr (.inr h)
def amap (l:List Step):List (Int×Int):=l.zipIdx.map fun p=>(p.1.t,(p.2:Int))
structure PrfOk (L:Pool) (G:List Int) (K:Int→Prop) (l:List Step) (B:List Int):Prop where
 fol:∀i (hi:i<l.length),fol L G (l.take i) l[i]=true
 nd:(l.map Step.t).Nodup
 drv:∀s∈l,Drv L K s.t
 bar:∀t∈B,¬ Drv L K t
theorem PrfOk.nil (L:Pool) (G:List Int) (K:Int→Prop):PrfOk L G K [] []:=⟨fun i hi=>by simp at hi,by simp,by simp,by simp⟩
theorem PrfOk.snoc {L:Pool} {G:List Int} {K:Int→Prop} {l:List Step} {B:List Int} (h:PrfOk L G K l B) {s:Step} (hf:Sp.fol L G l s=true) (hn:s.t ∉ l.map Step.t) (hd:Drv L K s.t):PrfOk L G K (l++[s]) B:=by
 refine ⟨fun i hi=>?_,?_,fun x hx=>?_,h.bar⟩
 ·rw [List.length_append] at hi
  simp only [List.length_cons,List.length_nil] at hi
  by_cases hl:i<l.length
  ·rw [List.getElem_append_left hl,List.take_append_of_le_length (by omega)];exact h.fol i hl
  ·have:i=l.length:=by omega
   subst this
   rw [List.getElem_append_right (Nat.le_refl _),List.take_left]
   simpa using hf
 ·rw [List.map_append,List.nodup_append]
  exact ⟨h.nd,by simp,fun x hx y hy e=>by simp at hy;subst hy;exact hn (e▸hx)⟩
 ·rcases List.mem_append.1 hx with hx | hx
  ·exact h.drv x hx
  ·simp at hx;subst hx;exact hd
theorem fol_in {L:Pool} {G:List Int} {pre:List Step} {s:Step} (h:fol L G pre s=true):inP L s.t=true:=by
 unfold fol at h
 split at h
 ·cases h
 ·rename_i hh;simpa using hh
theorem PrfOk.few {L:Pool} {G:List Int} {K:Int→Prop} {l:List Step} {B:List Int} (h:PrfOk L G K l B):l.length≤L.length:=by
 have:=pool_few h.nd (fun t ht=>by
  obtain ⟨s,hs,rfl⟩:=List.mem_map.1 ht
  obtain ⟨i,hi,rfl⟩:=List.getElem_of_mem hs
  exact fol_in (h.fol i hi))
 simpa using this
end Go.Sp
end
section
open Go.SE
namespace Go.Sp
def upd (V:Int→Bool) (t:Int) (b:Bool):Int→Bool:=fun x=>if x=t then b else V x
def overS (L:Pool):Nat→Int→(Int→Bool)×List Int→(Int→Bool)×List Int
 | 0,_,st=>st
 | n + 1, t, st => if inP L t = true ∧ st.1 t = false then
   let s2:=overS L n (nodeOf L t).b (overS L n (nodeOf L t).a (upd st.1 t true,st.2))
   (s2.1,s2.2++[t])
  else st
def subs (L:Pool) (t:Int):List Int:=(overS L (t.toNat+1) t (fun _=>false,[])).2
theorem Sub.head {L:Pool} {t y:Int} (h:Sub L t y):y=t∨∃k∈kidsOf (nodeOf L t),Sub L k y:=by
 induction h with
 | refl=>exact .inl rfl
 | kid _ hk ih =>
  rcases ih with rfl | ⟨k,h1,h2⟩
  ·exact .inr ⟨_,hk,.refl _⟩
  ·exact .inr ⟨k,h1,h2.kid hk⟩
theorem Sub.le {L:Pool} (hW:Wf L) {t y:Int} (ht:inP L t=true) (h:Sub L t y):inP L y=true∧y≤t:=by
 induction h with
 | refl=>exact ⟨ht,Int.le_refl _⟩
 | kid _ hk ih =>
  have:=(hW.node ih.1).2.2.2.2.1 _ hk
  exact ⟨this.1,by omega⟩
theorem kid_ab {n:Node} {k:Int} (h:k∈kidsOf n):k=n.a∨k=n.b:=by
 unfold kidsOf at h
 have:=List.mem_of_mem_take h
 simpa using this
theorem kid_of {L:Pool} (hW:Wf L) {t k:Int} (ht:inP L t=true) (h:k=(nodeOf L t).a∨k=(nodeOf L t).b) (hk:inP L k=true):k∈kidsOf (nodeOf L t):=by
 have h1:=(hW.node ht).2.1
 have h2:=(hW.node ht).2.2.1
 have hk0:k≠0:=by have:=(inP_iff.1 hk).1;omega
 unfold kidsOf
 rcases kids_le (nodeOf L t).kind with e | e | e
 ·have a0:=h1 (by omega);have b0:=h2 (by omega)
  rcases h with h | h
  ·exact absurd (h.trans a0) hk0
  ·exact absurd (h.trans b0) hk0
 ·have b0:=h2 (by omega)
  rcases h with h | h
  ·rw [e,h];simp
  ·exact absurd (h.trans b0) hk0
 ·rw [e];rcases h with h | h <;> simp [h]
structure OvOk (L:Pool) (st:(Int→Bool)×List Int):Prop where
 marked:∀x∈st.2,st.1 x=true
 closed:∀x∈st.2,∀y,Sub L x y→y∈st.2
 nd:st.2.Nodup
 inp:∀x∈st.2,inP L x=true
structure OvRes (L:Pool) (t:Int) (st st':(Int→Bool)×List Int):Prop extends OvOk L st' where
 app:∃M,st'.2=st.2++M∧∀x∈M,Sub L t x∧inP L t=true
 keep:∀x,st.1 x=true→st'.1 x=true
 back:∀x,st'.1 x=true→st.1 x=true∨x∈st'.2
 all:inP L t=true→∀y,Sub L t y→y∈st'.2
theorem over_ok {L:Pool} (hW:Wf L):∀(n:Nat) (t:Int) (st:(Int→Bool)×List Int),t.toNat<n→OvOk L st→(∀x,st.1 x=true→x≤t→x∈st.2)→OvRes L t st (overS L n t st):=by
 intro n
 induction n with
 | zero=>intro t st h;omega
 | succ n ih =>
  intro t st hn hst hm
  rw [overS]
  by_cases hc:inP L t=true∧st.1 t=false
  ·rw [if_pos hc]
   obtain ⟨hin,hv⟩:=hc
   have ht1:=(inP_iff.1 hin).1
   have hkid:=(hW.node hin).2.2.2.2.1
   have low:∀k,k=(nodeOf L t).a∨k=(nodeOf L t).b→k<t:=by
    intro k hk
    cases hp:inP L k with
    | true=>exact (hkid k (kid_of hW hin hk hp)).2
    | false =>
     have h1:=(hW.node hin).2.1
     have h2:=(hW.node hin).2.2.1
     rcases kids_le (nodeOf L t).kind with e | e | e
     ·have:=h1 (by omega);have:=h2 (by omega);rcases hk with hk | hk <;> omega
     ·have b0:=h2 (by omega)
      rcases hk with hk | hk
      ·have:=(hkid k (by unfold kidsOf;rw [e,hk];simp)).2;exact this
      ·omega
     ·exact (hkid k (by unfold kidsOf;rw [e];rcases hk with hk | hk <;> simp [hk])).2
   have o1:OvOk L (upd st.1 t true,st.2):=⟨fun x hx=>by simp only [upd];split <;> simp [hst.marked x hx],hst.closed,hst.nd,hst.inp⟩
   have r1:=ih (nodeOf L t).a (upd st.1 t true,st.2) (by have:=low _ (.inl rfl);omega) o1 (fun x hx hle=>by
    have:=low _ (.inl rfl)
    simp only [upd] at hx
    rw [if_neg (by omega)] at hx
    exact hm x hx (by omega))
   generalize overS L n (nodeOf L t).a (upd st.1 t true,st.2)=s1 at *
   have r2:=ih (nodeOf L t).b s1 (by have:=low _ (.inr rfl);omega) r1.toOvOk (fun x hx hle=>by
    have:=low _ (.inr rfl)
    rcases r1.back x hx with h | h
    ·simp only [upd] at h
     rw [if_neg (by omega)] at h
     have:=hm x h (by omega)
     obtain ⟨M,e,_⟩:=r1.app
     simp only at e
     rw [e];exact List.mem_append_left _ this
    ·exact h)
   generalize overS L n (nodeOf L t).b s1=s2 at *
   obtain ⟨M1,e1,m1⟩:=r1.app
   obtain ⟨M2,e2,m2⟩:=r2.app
   simp only at e1
   have hvt:s2.1 t=true:=r2.keep t (r1.keep t (by simp [upd]))
   have hto:t ∉ s2.2:=by
    rw [e2,e1]
    intro h
    rcases List.mem_append.1 h with h | h
    ·rcases List.mem_append.1 h with h | h
     ·have:=hst.marked t h;rw [hv] at this;cases this
     ·obtain ⟨h1,h2⟩:=m1 t h
      have:=(h1.le hW h2).2;have:=low _ (.inl rfl);omega
    ·obtain ⟨h1,h2⟩:=m2 t h
     have:=(h1.le hW h2).2;have:=low _ (.inr rfl);omega
   have hall:∀y,Sub L t y→y∈s2.2++[t]:=by
    intro y hy
    rcases hy.head with rfl | ⟨k,hk,hs⟩
    ·simp
    ·refine List.mem_append_left _ ?_
     have hki:=(hkid k hk).1
     rcases kid_ab hk with rfl | rfl
     ·rw [e2];exact List.mem_append_left _ (r1.all hki y hs)
     ·exact r2.all hki y hs
   refine ⟨⟨fun x hx=>?_,fun x hx y hy=>?_,?_,fun x hx=>?_⟩,⟨M1++M2++[t],by simp [e2,e1],fun x hx=>?_⟩,fun x hx=>?_,fun x hx=>?_,fun _=>hall⟩
   ·simp only [List.mem_append,List.mem_singleton] at hx
    rcases hx with hx | rfl
    ·exact r2.marked x hx
    ·exact hvt
   ·simp only [List.mem_append,List.mem_singleton] at hx
    rcases hx with hx | rfl
    ·exact List.mem_append_left _ (r2.closed x hx y hy)
    ·exact hall y hy
   ·rw [List.nodup_append]
    exact ⟨r2.nd,by simp,fun x hx y hy e=>by simp at hy;subst hy;exact hto (e▸hx)⟩
   ·simp only [List.mem_append,List.mem_singleton] at hx
    rcases hx with hx | rfl
    ·exact r2.inp x hx
    ·exact hin
   ·refine ⟨?_,hin⟩
    simp only [List.mem_append,List.mem_singleton] at hx
    rcases hx with (hx | hx) | rfl
    ·obtain ⟨h1,h2⟩:=m1 x hx
     exact (Sub.kid (.refl t) (kid_of hW hin (.inl rfl) h2)).trans h1
    ·obtain ⟨h1,h2⟩:=m2 x hx
     exact (Sub.kid (.refl t) (kid_of hW hin (.inr rfl) h2)).trans h1
    ·exact .refl _
   ·exact r2.keep x (r1.keep x (by simp only [upd];split <;> simp [hx]))
   ·rcases r2.back x hx with h | h
    ·rcases r1.back x h with h' | h'
     ·simp only [upd] at h'
      split at h'
      ·rename_i e;subst e;right;simp
      ·exact .inl h'
     ·right;show x∈s2.2++[t];rw [e2];exact List.mem_append_left _ (List.mem_append_left _ h')
    ·exact .inr (List.mem_append_left _ h)
  ·rw [if_neg hc]
   refine ⟨hst,⟨[],by simp,by simp⟩,fun x h=>h,fun x h=>.inl h,fun hin y hy=>?_⟩
   have hv:st.1 t=true:=by
    cases h:st.1 t with
    | true=>rfl
    | false=>exact absurd ⟨hin,h⟩ hc
   exact hst.closed t (hm t hv (Int.le_refl _)) y hy
theorem subs_mem {L:Pool} (hW:Wf L) {t x:Int}:x∈subs L t↔inP L t=true∧Sub L t x:=by
 have r:=over_ok hW (t.toNat+1) t (fun _=>false,[]) (by omega) ⟨by simp,by simp,by simp,by simp⟩ (by simp)
 constructor
 ·intro h
  obtain ⟨M,e,hm⟩:=r.app
  unfold subs at h
  rw [e] at h
  simp only [List.nil_append] at h
  exact ⟨(hm x h).2,(hm x h).1⟩
 ·intro h;exact r.all h.1 x h.2
theorem subs_few {L:Pool} (hW:Wf L) (t:Int):(subs L t).length≤L.length:=by
 have r:=over_ok hW (t.toNat+1) t (fun _=>false,[]) (by omega) ⟨by simp,by simp,by simp,by simp⟩ (by simp)
 exact pool_few r.nd r.inp
end Go.Sp
end
section
namespace Go.Sp
def Ord (L:Pool) (l:List Int):Prop:=∀pre z post,l=pre++z :: post→∀k∈kidsOf (nodeOf L z),k∈pre
theorem Ord.snoc {L:Pool} {l:List Int} {t:Int} (h:Ord L l) (ht:∀k∈kidsOf (nodeOf L t),k∈l):Ord L (l++[t]):=by
 intro pre z post e k hk
 rcases List.eq_nil_or_concat post with rfl | ⟨post',y,rfl⟩
 ·have:=List.append_inj' e rfl
  obtain ⟨rfl,e2⟩:=this
  simp only [List.cons.injEq,and_true] at e2
  subst e2;exact ht k hk
 ·have e':l++[t]=(pre++z :: post')++[y]:=by rw [e];simp
  have:=List.append_inj' e' rfl
  exact h pre z post' this.1 k hk
theorem over_ord {L:Pool} (hW:Wf L):∀(n:Nat) (t:Int) (st:(Int→Bool)×List Int),t.toNat<n→OvOk L st→(∀x,st.1 x=true→x≤t→x∈st.2)→Ord L st.2→Ord L (overS L n t st).2:=by
 intro n
 induction n with
 | zero=>intro t st h;omega
 | succ n ih =>
  intro t st hn hst hm ho
  rw [overS]
  by_cases hc:inP L t=true∧st.1 t=false
  ·rw [if_pos hc]
   obtain ⟨hin,hv⟩:=hc
   have ht1:=(inP_iff.1 hin).1
   have hkid:=(hW.node hin).2.2.2.2.1
   have low:∀k,k=(nodeOf L t).a∨k=(nodeOf L t).b→k<t:=by
    intro k hk
    cases hp:inP L k with
    | true=>exact (hkid k (kid_of hW hin hk hp)).2
    | false =>
     have h1:=(hW.node hin).2.1
     have h2:=(hW.node hin).2.2.1
     rcases kids_le (nodeOf L t).kind with e | e | e
     ·have:=h1 (by omega);have:=h2 (by omega);rcases hk with hk | hk <;> omega
     ·have b0:=h2 (by omega)
      rcases hk with hk | hk
      ·have:=(hkid k (by unfold kidsOf;rw [e,hk];simp)).2;exact this
      ·omega
     ·exact (hkid k (by unfold kidsOf;rw [e];rcases hk with hk | hk <;> simp [hk])).2
   have o1:OvOk L (upd st.1 t true,st.2):=⟨fun x hx=>by simp only [upd];split <;> simp [hst.marked x hx],hst.closed,hst.nd,hst.inp⟩
   have m1:∀x,(upd st.1 t true,st.2).1 x=true→x≤(nodeOf L t).a→x∈(upd st.1 t true,st.2).2:=fun x hx hle=>by
    have:=low _ (.inl rfl)
    simp only [upd] at hx
    rw [if_neg (by omega)] at hx
    exact hm x hx (by omega)
   have n1:(nodeOf L t).a.toNat<n:=by have:=low _ (.inl rfl);omega
   have n2:(nodeOf L t).b.toNat<n:=by have:=low _ (.inr rfl);omega
   have r1:=over_ok hW n (nodeOf L t).a (upd st.1 t true,st.2) n1 o1 m1
   have d1:=ih (nodeOf L t).a (upd st.1 t true,st.2) n1 o1 m1 ho
   generalize overS L n (nodeOf L t).a (upd st.1 t true,st.2)=s1 at *
   have m2:∀x,s1.1 x=true→x≤(nodeOf L t).b→x∈s1.2:=fun x hx hle=>by
    have:=low _ (.inr rfl)
    rcases r1.back x hx with h | h
    ·simp only [upd] at h
     rw [if_neg (by omega)] at h
     have:=hm x h (by omega)
     obtain ⟨M,e,_⟩:=r1.app
     simp only at e
     rw [e];exact List.mem_append_left _ this
    ·exact h
   have r2:=over_ok hW n (nodeOf L t).b s1 n2 r1.toOvOk m2
   have d2:=ih (nodeOf L t).b s1 n2 r1.toOvOk m2 d1
   generalize overS L n (nodeOf L t).b s1=s2 at *
   obtain ⟨M2,e2,_⟩:=r2.app
   refine d2.snoc fun k hk=>?_
   have hki:=(hkid k hk).1
   rcases kid_ab hk with rfl | rfl
   ·rw [e2];exact List.mem_append_left _ (r1.all hki _ (.refl _))
   ·exact r2.all hki _ (.refl _)
  ·rw [if_neg hc];exact ho
theorem subs_ord {L:Pool} (hW:Wf L) (t:Int):Ord L (subs L t) :=
 over_ord hW (t.toNat+1) t (fun _=>false,[]) (by omega) ⟨by simp,by simp,by simp,by simp⟩ (by simp) (fun pre z post e=>by simp at e)
theorem subs_nodup {L:Pool} (hW:Wf L) (t:Int):(subs L t).Nodup :=
 (over_ok hW (t.toNat+1) t (fun _=>false,[]) (by omega) ⟨by simp,by simp,by simp,by simp⟩ (by simp)).nd
end Go.Sp
end
section
namespace Go.Proofs
inductive Fld | from_ | to_ | num | text | fst | snd
deriving DecidableEq
def flds (k:Int):List Fld :=
 if k=1 then [.from_] else if k=2 then [.num] else if k=3 then [.text] else if k=4 then [.fst,.snd] else if k=5 then [.fst] else if k=6 then [.from_] else if k=7 then [.from_,.fst] else if k=8 then [.from_,.to_,.fst] else if k=9 then [.from_,.to_,.fst] else []
def Fld.bytes (n:Sp.Node) (na nb:Nat):Fld→List UInt8
 | .from_=>varint n.frm.toNat | .to_=>varint n.to.toNat | .num=>varint n.num.toNat | .text=>textBytes n.text | .fst=>varint na | .snd=>varint nb
def posOf (seen:List Int) (t:Int):Nat:=seen.idxOf t
def nodeText (L:Sp.Pool) (seen:List Int) (t:Int):List UInt8 :=
 UInt8.ofNat (Sp.nodeOf L t).kind.toNat :: (flds (Sp.nodeOf L t).kind).flatMap (Fld.bytes (Sp.nodeOf L t) (posOf seen (Sp.nodeOf L t).a) (posOf seen (Sp.nodeOf L t).b))
def textFrom (L:Sp.Pool):List Int→List Int→List UInt8
 | _,[]=>[]
 | seen,t :: l=>nodeText L seen t++textFrom L (seen++[t]) l
theorem textFrom_snoc (L:Sp.Pool) (l:List Int) (t:Int):∀seen,textFrom L seen (l++[t])=textFrom L seen l++nodeText L (seen++l) t:=by
 induction l with
 | nil=>intro seen;simp [textFrom]
 | cons x l ih=>intro seen;simp only [List.cons_append,textFrom];rw [ih];simp
def textOf (L:Sp.Pool) (t:Int):List UInt8:=textFrom L [] (Sp.subs L t)
theorem posOf_app {l l':List Int} {u:Int} (h:u∈l):posOf (l++l') u=posOf l u:=by unfold posOf;rw [List.idxOf_append,if_pos h]
theorem posOf_new {l:List Int} {z:Int} (h:z ∉ l):posOf (l++[z]) z=l.length:=by unfold posOf;rw [List.idxOf_append,if_neg h];simp
def encS (L:Sp.Pool) (t:Int):List UInt8×Int:=if Sp.inP L t then (if (textOf L t).length>4096 then ([],1) else (textOf L t,0)) else ([],51)
end Go.Proofs
end
section
open Go Go.SE
namespace Go.Proofs
attribute [local irreducible] Calls CallsD
def Fld.put:Fld→FuncId
 | .from_=>109 | .to_=>113 | .num=>115 | .text=>117 | .fst=>121 | .snd=>123
def Fld.get:Fld→FuncId
 | .from_=>111 | .to_=>114 | .num=>116 | .text=>119 | .fst=>122 | .snd=>124
def Fld.row (f:Fld):List Value:=[.func (.func f.put) #[] #[],.func (.func f.get) #[] #[]]
structure PartsAt (w0 w:World) (m:Nat) (Bs:List (Addr×Fld)) (M:List (Int×Sl)):Prop where
 box:∀b∈Bs,Box w b.1 b.2.row 174∧b.1.block≠m
 map:IMap Sl.v w m M
 lst:∀p∈M,Lst (fun b=>w0.heap.size≤b∧b≠m) w 2 p.2 ((flds p.1).map Fld.row)
 pure:Pure w0 w
 own:w0.heap.size≤m
theorem PartsAt.step {w0 w w1 : World} {m : Nat} {Bs : List (Addr × Fld)} {M : List (Int × Sl)} (h : PartsAt w0 w m Bs M) {cs : Array Value} {p : Addr} (n1 : New w (.cells cs 174) p w1) (k : Int) (n : Nat) (hn : (flds k).length = n) (hcs : cs.toList = ((flds k).map Fld.row).flatten) (hk : SE.look M k = none) :
  ∃w2,(Instr.mapUpdate 127 (.map (some m)) (.int .i64 k) (Sl.mk (some p) n n).v).run Tryz.prog w1=.ok () w2∧PartsAt w0 w2 m Bs (M++[(k,Sl.mk (some p) n n)]):=by
 have E1:Pure w w1:=Ext.new n1
 obtain ⟨w2,hr,hM,hE⟩:=(h.map.pure E1).put (P:=Tryz.prog) (T:=127) Tryz.underlying127 Tryz.underlying3 hk (Sl.mk (some p) n n)
 have B1:=Box.of_newA n1
 have hb:=n1.at_size
 have hm:=h.map.lt
 refine ⟨w2,hr,⟨fun b hb=>⟨((h.box b hb).1.pure E1).ext hE (h.box b hb).2,(h.box b hb).2⟩,hM,?_,(h.pure.trans E1).trans' hE (fun i hi e=>by have:=h.own;omega),h.own⟩⟩
 intro q hq
 rcases List.mem_append.1 hq with hq | hq
 ·exact ((h.lst q hq).pure E1).ext hE (fun b hb=>hb.2)
 ·simp only [List.mem_singleton] at hq
  subst hq
  refine ⟨by simp [hn],fun i hi=>?_⟩
  have hi':i<(flds k).length:=by simpa using hi
  refine ⟨p.add (i*2),⟨by omega,by simp;omega,p,rfl,by simp⟩,?_,?_⟩
  ·rw [add_block];exact ⟨by have:=h.pure.size;omega,by omega⟩
  ·have hrow:Row w2 p cs.toList:=hE.row (B1.row) (by omega)
   intro j hj
   rw [add_add]
   have hlen:∀r∈(flds k).map Fld.row,r.length=2:=by intro r hr;obtain ⟨f,_,rfl⟩:=List.mem_map.1 hr;rfl
   have hj2:j<2:=by rw [hlen _ (List.getElem_mem hi)] at hj;exact hj
   have hg:=flatten_get hlen hi hj2
   have hlt:i*2+j<cs.toList.length:=by rw [hcs,flatten_len hlen,List.length_map];omega
   rw [hrow _ hlt,hcs,hg]
structure BxsAt (w0 w:World) (Bs:List (Addr×Fld)):Prop where
 box:∀b∈Bs,Box w b.1 b.2.row 174
 pure:Pure w0 w
theorem BxsAt.step {w0 w w1:World} {Bs:List (Addr×Fld)} (h:BxsAt w0 w Bs) {p:Addr} (n1:New w (.cells #[.nilFunc,.nilFunc] 174) p w1) (f:Fld) {A:WP} (k:∀w',BxsAt w0 w' (Bs++[(p,f)])→A w'):(∀j,j<2→CanW w1 (p.add j))∧∀w',w'=storeRow w1 p f.row→A w':=by
 have E1:Pure w w1:=Ext.new n1
 refine bx 2 (Box.of_newA n1) rfl rfl (fun w2 b E=>k w2 ⟨fun c hc=>?_,h.pure.own (p:=p) (by rw [n1.at_size];exact h.pure.size) ((Ext.pure E1).trans E)⟩)
 rcases List.mem_append.1 hc with hc | hc
 ·have hB:=h.box c hc
  exact (hB.pure E1).ext E (fun e=>by have:=World.block_lt_of_cell? w c.1 hB.cell0;have:=n1.at_size;omega)
 ·simp only [List.mem_singleton] at hc;subst hc;exact b
theorem PartsAt.get {w0 w:World} {m:Nat} {Bs:List (Addr×Fld)} {M:List (Int×Sl)} (h:PartsAt w0 w m Bs M) {p:Addr} {f:Fld} (hb:(p,f)∈Bs):Row w p [.func (.func f.put) #[] #[],.func (.func f.get) #[] #[]]:=(h.box _ hb).1.row
theorem c_parts (w0:World):Calls Tryz.prog 75 #[] w0 (fun e w'=>∃x:Option Nat,e=.returned (.map x)∧∃m M,x=some m∧(∃Bs,PartsAt w0 w' m Bs M)∧M.map Prod.fst=[1,2,3,4,5,6,7,8,9]):=by
 refine w_G2 w0 (fun x w'=>∃m M,x=some m∧(∃Bs,PartsAt w0 w' m Bs M)∧M.map Prod.fst=[1,2,3,4,5,6,7,8,9]) ?_
 unfold m_G2
 have h0:BxsAt w0 w0 []:=⟨fun b hb=>(by cases hb),Ext.refl _⟩
 intro p1 v1 n1
 refine h0.step n1 .from_ (fun u1 h1=>?_)
 intro p2 v2 n2
 refine h1.step n2 .to_ (fun u2 h2=>?_)
 intro p3 v3 n3
 refine h2.step n3 .num (fun u3 h3=>?_)
 intro p4 v4 n4
 refine h3.step n4 .text (fun u4 h4=>?_)
 intro p5 v5 n5
 refine h4.step n5 .fst (fun u5 h5=>?_)
 intro p6 v6 n6
 refine h5.step n6 .snd (fun u6 h6=>?_)
 intro p7 w1 n7
 have g0:PartsAt w0 w1 p7.block _ []:=⟨fun b hb=>⟨(h6.box b hb).pure (Ext.new n7),fun e=>by have:=World.block_lt_of_cell? u6 b.1 (h6.box b hb).cell0;have:=n7.at_size;omega⟩,IMap.of_new n7,fun p hp=>(by cases hp),h6.pure.trans (Ext.new n7),by rw [n7.at_size];exact h6.pure.size⟩
 refine ⟨_,_,g0.get (f:=.from_) (by simp),?_⟩
 intro q1 x1 y1
 obtain ⟨z1,r1,g1⟩:=g0.step y1 1 1 rfl rfl (by simp [SE.look])
 refine ⟨z1,r1,?_⟩
 refine ⟨_,_,g1.get (f:=.num) (by simp),?_⟩
 intro q2 x2 y2
 obtain ⟨z2,r2,g2⟩:=g1.step y2 2 1 rfl rfl (by simp [SE.look])
 refine ⟨z2,r2,?_⟩
 refine ⟨_,_,g2.get (f:=.text) (by simp),?_⟩
 intro q3 x3 y3
 obtain ⟨z3,r3,g3⟩:=g2.step y3 3 1 rfl rfl (by simp [SE.look])
 refine ⟨z3,r3,?_⟩
 refine ⟨_,_,g3.get (f:=.fst) (by simp),?_⟩
 refine ⟨_,_,g3.get (f:=.snd) (by simp),?_⟩
 intro q4 x4 y4
 obtain ⟨z4,r4,g4⟩:=g3.step y4 4 2 rfl rfl (by simp [SE.look])
 refine ⟨z4,r4,?_⟩
 refine ⟨_,_,g4.get (f:=.fst) (by simp),?_⟩
 intro q5 x5 y5
 obtain ⟨z5,r5,g5⟩:=g4.step y5 5 1 rfl rfl (by simp [SE.look])
 refine ⟨z5,r5,?_⟩
 refine ⟨_,_,g5.get (f:=.from_) (by simp),?_⟩
 intro q6 x6 y6
 obtain ⟨z6,r6,g6⟩:=g5.step y6 6 1 rfl rfl (by simp [SE.look])
 refine ⟨z6,r6,?_⟩
 refine ⟨_,_,g6.get (f:=.from_) (by simp),?_⟩
 refine ⟨_,_,g6.get (f:=.fst) (by simp),?_⟩
 intro q7 x7 y7
 obtain ⟨z7,r7,g7⟩:=g6.step y7 7 2 rfl rfl (by simp [SE.look])
 refine ⟨z7,r7,?_⟩
 refine ⟨_,_,g7.get (f:=.from_) (by simp),?_⟩
 refine ⟨_,_,g7.get (f:=.to_) (by simp),?_⟩
 refine ⟨_,_,g7.get (f:=.fst) (by simp),?_⟩
 intro q8 x8 y8
 obtain ⟨z8,r8,g8⟩:=g7.step y8 8 3 rfl rfl (by simp [SE.look])
 refine ⟨z8,r8,?_⟩
 refine ⟨_,_,g8.get (f:=.from_) (by simp),?_⟩
 refine ⟨_,_,g8.get (f:=.to_) (by simp),?_⟩
 refine ⟨_,_,g8.get (f:=.fst) (by simp),?_⟩
 intro q9 x9 y9
 obtain ⟨z9,r9,g9⟩:=g8.step y9 9 3 rfl rfl (by simp [SE.look])
 refine ⟨z9,r9,?_⟩
 exact ⟨p7.block,_,rfl,⟨_,g9⟩,rfl⟩
end Go.Proofs
end
section
namespace Go.Proofs
def Fld.rd (bs:List UInt8) (r:Rd):Fld→Rd
 | .text=>(rText bs 64 r).2
 | _=>(rNum bs r).2
structure Raw where
 num:Nat
 text:List UInt8
 frm:Nat
 to:Nat
 a:Nat
 b:Nat
 kids:Nat
def noRaw:Raw:=⟨0,[],0,0,0,0,0⟩
def Fld.raw (bs:List UInt8) (r:Rd) (x:Raw):Fld→Raw
 | .from_=>{ x with frm:=(rNum bs r).1 }
 | .to_=>{ x with to:=(rNum bs r).1 }
 | .num=>{ x with num:=(rNum bs r).1 }
 | .text=>{ x with text:=(rText bs 64 r).1 }
 | .fst=>{ x with a:=(rNum bs r).1,kids:=1 }
 | .snd=>{ x with b:=(rNum bs r).1,kids:=2 }
def rdFlds (bs:List UInt8):List Fld→Raw×Rd→Raw×Rd
 | [],s=>s
 | f :: l,(x,r)=>rdFlds bs l (f.raw bs r x,f.rd bs r)
def nodeErr (k n:Nat) (x:Raw) (e:Nat):Nat :=
 if e≠0 then e
 else if 16≤x.frm∨16≤x.to∨((k=8∨k=9)∧x.frm=x.to) then 50
 else if (0<x.kids∧n≤x.a)∨(1<x.kids∧n≤x.b) then 71
 else 0
def Raw.node (k:Nat) (x:Raw):Sp.Node:=⟨k,x.frm,x.to,x.num,⟨x.text.toArray⟩,if 0<x.kids then (x.a:Int)+1 else 0,if 1<x.kids then (x.b:Int)+1 else 0⟩
def isKindN (k:Nat):Bool:=decide (1≤k) && decide (k≤9)
def rdIn (L:Sp.Pool) (k:Nat) (s:Raw×Rd):Sp.Pool×Int×Rd :=
 if nodeErr k L.length s.1 s.2.err≠0 then (L,((nodeErr k L.length s.1 s.2.err:Nat):Int),s.2)
 else if (Sp.find L (s.1.node k)).isSome=true then (L,72,s.2)
 else ((Sp.make L (s.1.node k)).2.2,(Sp.make L (s.1.node k)).2.1,s.2)
def rdStep (bs:List UInt8) (L:Sp.Pool) (r:Rd):Sp.Pool×Int×Rd :=
 if isKindN (rByte bs r).1=true then rdIn L (rByte bs r).1 (rdFlds bs (flds (rByte bs r).1) (noRaw,(rByte bs r).2))
 else (L,70,(rByte bs r).2)
def inRow:Nat→List Int→Nat
 | i,[]=>i
 | i,s :: l=>if s=(i:Int)+1 then inRow (i+1) l else i
def rdEnd (L:Sp.Pool) (ps:List Nat):Option Sp.Pool×Int×Nat :=
 let i:=inRow 0 (Sp.subs L L.length)
 if h:i<ps.length then (none,73,ps[i]) else (some L,0,0)
def rdGo (bs:List UInt8):Nat→Sp.Pool→Rd→List Nat→Option Sp.Pool×Int×Nat
 | 0,L,_,ps=>rdEnd L ps
 | n+1,L,r,ps =>
  if r.at_<bs.length then
   if (rdStep bs L r).2.1≠0 then (none,(rdStep bs L r).2.1,r.at_)
   else rdGo bs n (rdStep bs L r).1 (rdStep bs L r).2.2 (ps++[r.at_])
  else rdEnd L ps
def rdText (bs:List UInt8):Option Sp.Pool×Int×Nat :=
 if 4096<bs.length then (none,1,0) else if bs.length=0 then (none,3,0) else rdGo bs bs.length [] ⟨0,0,0⟩ []
def copyGo (Lq:Sp.Pool):List Int→Sp.Pool→(Int→Int)→Sp.Pool×Int×(Int→Int)
 | [],L,own=>(L,0,own)
 | s :: l,L,own =>
  let m:=Sp.make L { Sp.nodeOf Lq s with a:=own (Sp.nodeOf Lq s).a,b:=own (Sp.nodeOf Lq s).b }
  if m.2.1≠0 then (L,m.2.1,own) else copyGo Lq l m.2.2 (fun x=>if x=s then m.1 else own x)
def copyS (L Lq:Sp.Pool) (t:Int):Int×Int×Sp.Pool :=
 if Sp.inP Lq t=true then
  let c:=copyGo Lq (Sp.subs Lq t) L (fun _=>0)
  if c.2.1≠0 then (0,c.2.1,L) else (c.2.2 t,0,c.1)
 else (0,51,L)
def decS (L:Sp.Pool) (bs:List UInt8):Int×Int×Nat×Sp.Pool :=
 match (rdText bs).1 with
 | none=>(0,(rdText bs).2.1,(rdText bs).2.2,L)
 | some q=>((copyS L q q.length).1,(copyS L q q.length).2.1,0,(copyS L q q.length).2.2)
theorem rNum_at (bs:List UInt8) (r:Rd) (h:r.at_≤bs.length):r.at_≤(rNum bs r).2.at_∧(rNum bs r).2.at_≤bs.length:=by
 have key:∀(l:List UInt8) (i n:Nat) (m k:Nat),rdNum i n l=.ok (m,k)→k≤i+l.length∧i<k:=by
  intro l
  induction l with
  | nil=>intro i n m k h;simp [rdNum] at h
  | cons c l ih =>
   intro i n m k h
   rw [rdNum_cons] at h
   split at h
   ·cases h
   ·split at h
    ·split at h
     ·cases h
     ·cases h;simp
    ·have:=ih _ _ _ _ h
     rw [List.length_cons];omega
 unfold rNum
 split
 ·split
  ·rename_i n k hk
   have:=key _ _ _ _ _ hk
   rw [List.length_drop] at this
   simp only;omega
  ·exact ⟨Nat.le_refl _,h⟩
 ·exact ⟨Nat.le_refl _,h⟩
theorem rText_at (bs:List UInt8) (m:Nat) (r:Rd) (h:r.at_≤bs.length):r.at_≤(rText bs m r).2.at_∧(rText bs m r).2.at_≤bs.length:=by
 have hn:=rNum_at bs r h
 unfold rNum at hn
 unfold rText
 split
 ·rename_i he
  rw [if_pos he] at hn
  split
  ·rename_i n k hk
   rw [hk] at hn
   simp only at hn
   split
   ·exact ⟨Nat.le_refl _,h⟩
   ·split
    ·exact ⟨Nat.le_refl _,h⟩
    ·simp only;omega
  ·exact ⟨Nat.le_refl _,h⟩
 ·exact ⟨Nat.le_refl _,h⟩
theorem Fld.rd_at (bs:List UInt8) (r:Rd) (f:Fld) (h:r.at_≤bs.length):r.at_≤(f.rd bs r).at_∧(f.rd bs r).at_≤bs.length:=by
 cases f <;> first | exact rText_at bs 64 r h | exact rNum_at bs r h
theorem rdFlds_at (bs:List UInt8):∀(l:List Fld) (x:Raw) (r:Rd),r.at_≤bs.length→r.at_≤(rdFlds bs l (x,r)).2.at_∧(rdFlds bs l (x,r)).2.at_≤bs.length:=by
 intro l
 induction l with
 | nil=>intro x r h;exact ⟨Nat.le_refl _,h⟩
 | cons f l ih =>
  intro x r h
  have h1:=f.rd_at bs r h
  have h2:=ih (f.raw bs r x) (f.rd bs r) h1.2
  rw [rdFlds];omega
theorem rByte_ok (bs:List UInt8) (r:Rd) (h:r.at_<bs.length) (he:r.err=0):rByte bs r=(bs[r.at_].toNat,⟨r.at_+1,0,r.spot⟩):=by
 unfold rByte;rw [if_pos he,dif_pos h]
theorem rdStep_eq (bs : List UInt8) (L : Sp.Pool) (r : Rd) (h : r.at_ < bs.length) (he : r.err = 0) : rdStep bs L r =
  (if isKindN bs[r.at_].toNat=true then rdIn L bs[r.at_].toNat (rdFlds bs (flds bs[r.at_].toNat) (noRaw,⟨r.at_+1,0,r.spot⟩)) else (L,70,⟨r.at_+1,0,r.spot⟩)):=by
 unfold rdStep
 rw [rByte_ok bs r h he]
theorem rdIn_zero {L:Sp.Pool} {k:Nat} {s:Raw×Rd} (h:(rdIn L k s).2.1=0):s.2.err=0∧nodeErr k L.length s.1 s.2.err=0∧Sp.find L (s.1.node k)=none∧(Sp.make L (s.1.node k)).2.1=0∧rdIn L k s=((Sp.make L (s.1.node k)).2.2,0,s.2):=by
 unfold rdIn at *
 split at h
 ·rename_i h1;exact absurd (by simpa using h) h1
 ·rename_i h1
  rw [if_neg h1]
  have h1:nodeErr k L.length s.1 s.2.err=0:=by omega
  have he':s.2.err=0:=by
   by_cases h2:s.2.err=0
   ·exact h2
   ·exfalso;unfold nodeErr at h1;rw [if_pos h2] at h1;exact h2 h1
  split at h
  ·simp at h
  ·rename_i h3
   rw [if_neg h3]
   simp only at h
   exact ⟨he',h1,by simpa using h3,h,by rw [h]⟩
theorem rdStep_at (bs:List UInt8) (L:Sp.Pool) (r:Rd) (h:r.at_<bs.length) (he:r.err=0) (h0:(rdStep bs L r).2.1=0):r.at_<(rdStep bs L r).2.2.at_∧(rdStep bs L r).2.2.at_≤bs.length∧(rdStep bs L r).2.2.err=0:=by
 have hl:=rdFlds_at bs (flds bs[r.at_].toNat) noRaw ⟨r.at_+1,0,r.spot⟩ (by simp only;omega)
 simp only at hl
 rw [rdStep_eq bs L r h he] at *
 split at h0
 ·rename_i hk
  rw [if_pos hk]
  obtain ⟨h1,_,_,_,h5⟩:=rdIn_zero h0
  rw [h5];exact ⟨by simp only;omega,hl.2,h1⟩
 ·simp at h0
theorem rdGo_end {bs:List UInt8} {L:Sp.Pool} {r:Rd} {ps:List Nat} (h:¬ r.at_<bs.length):∀n,rdGo bs n L r ps=rdEnd L ps:=by
 intro n;cases n with
 | zero=>rfl
 | succ n=>rw [rdGo,if_neg h]
end Go.Proofs
end
