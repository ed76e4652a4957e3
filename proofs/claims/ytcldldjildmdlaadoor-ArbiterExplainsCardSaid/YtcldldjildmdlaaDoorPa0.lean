import Derived.Test.YtcldldjildmdlaaDoorProg
import Derived.WalkKit
import Derived.Shelf.Lay
import Derived.Shelf.Strconv.Itoa3
import Derived.Ground.NamesProg
section
namespace Go.Proofs
open Go.Shelf
shelf_lay LaysM.n171 Nm 171 at Tryd as Tryd.laysM171
shelf_lay Lays.n283 Nm 283 at Tryd as Tryd.lays283
shelf_lay LaysM.n284 Nm 284 at Tryd as Tryd.laysM284
shelf_lay Lays.n285 Nm 285 at Tryd as Tryd.lays285
theorem lay_Itoa (n : Int) (h0 : -9223372036854775808 ≤ n) (h1 : n ≤ 9223372036854775807) (w : World) (ht : Lib.TabIs Tryd.prog w "internal/strconv.uint64pow10" .u64 Lib.pow10Tab) :
  Calls Tryd.prog 8 #[.int .i64 n] w (fun e w'=>e=.returned (.string ⟨(Lib.itoa n).toArray⟩)∧∃k os,w'=Sort.grow (w.drewN k) os):=Any.strconv_Itoa Tryd.laysM171 n h0 h1 w ht
theorem lay_small (i : Nat) (h : i < 100) (w : World) :
  Calls Tryd.prog 29 #[.int .i64 i] w (fun e w'=>e=.returned (.string ⟨(Lib.decDigits i).toArray⟩)∧w'=w):=Any.internal_strconv_small Tryd.lays283 i h w
theorem lay_numDigits (u : Nat) (h1 : 1 ≤ u) (h2 : u < 18446744073709551616) (w : World) (ht : Lib.TabIs Tryd.prog w "internal/strconv.uint64pow10" .u64 Lib.pow10Tab) :
  Calls Tryd.prog 30 #[.int .u64 u] w (fun e w'=>e=.returned (.int .i64 (Lib.nDigits u))∧w'=w):=Any.internal_strconv_numDigits Tryd.laysM284 u h1 h2 w ht
theorem lay_format (b off cap : Nat) (u : Nat) (d : Array UInt8) (w : World) (hH : Sort.Holds (fun (b : UInt8) => Value.int .u8 (b.toNat : Int)) w b off d) (hu : u < 10 ^ d.size) (h2 : u < 18446744073709551616) (hs : d.size < 4611686018427387904) :
  Calls Tryd.prog 31 #[.slice (some ⟨b,off,none⟩) d.size cap,.int .u64 u] w (fun e w' =>
   e=.returned (.tuple #[])∧∃(n v':Nat) (dk:Array UInt8),w'=(Sort.putRow (fun (b:UInt8)=>Value.int .u8 (b.toNat:Int)) w b off dk).drewN n∧Lib.FmtInv d.size u 0 v' dk):=Any.internal_strconv_formatBase10 Tryd.lays285 b off cap u d w hH hu h2 hs
end Go.Proofs
end
