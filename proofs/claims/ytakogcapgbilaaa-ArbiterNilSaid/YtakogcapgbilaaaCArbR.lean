/- Contracts: escrow/arbiter, what is read; the pure law of 'fault'. -/
import Derived.Test.YtakogcapgbilaaaCArbA
import Derived.Test.YtakogcapgbilaaaCArbC
import Derived.Test.YtakogcapgbilaaaSeK
open Go Go.SE
namespace Go.Proofs
attribute [local irreducible] Calls

/-- The letters that are shown, as the arbiter reads them. -/
def Reads (pv : Option Addr) (sh : Sl) (ls : List Sp.Letter) (w : World) : Prop :=
  ∀ w', Pure w w' → Calls Try.prog 79 #[.pointer pv, sh.v] w' (fun e w'' => ∃ s : Sl, e = .returned s.v ∧ RetS w' 132 5 (ls.map lrow) s w'')
theorem Reads.pure {pv : Option Addr} {sh : Sl} {ls : List Sp.Letter} {w w' : World} (h : Reads pv sh ls w) (E : Pure w w') : Reads pv sh ls w' := fun w2 E2 => h w2 (E.trans E2)
theorem reads_pool (p : Addr) (sh : Sl) (ts : List Int) (w : World) {S : Nat → Prop} {L : Sp.Pool} {F : Nat → Prop} (hP : PoolAt w p L F) (hok : Sp.Ok L) (hs : Lst S w 1 sh (trows ts)) (hn : ts.length ≤ 1000000) : Reads (some p) sh (readAll L ts) w :=
  fun w' E => c_arb_read p sh ts w' (hP.pure E) hok (hs.pure E) hn
theorem reads_nil (sh : Sl) (n : Nat) (w : World) (hl : sh.len = n) (hn : n ≤ 1000000) : Reads none sh (List.replicate n Sp.noLetter) w := by
  intro w' _
  suffices key : ∀ K : Sl → World → Prop, (∀ s w'', RetS w' 132 5 ((List.replicate n Sp.noLetter).map lrow) s w'' → K s w'') → m_arbiter_read none sh w' K from
    w_arbiter_read _ _ w' _ (key _ (fun _ _ h => h))
  intro K hK
  unfold m_arbiter_read
  obtain ⟨w1, hr1, hrows, E1⟩ := Rws.make (P := Try.prog) slT_letter zero_letter (k := .i64) (k' := .i64) (n := sh.len) (by omega) (by simp [maxLen]; omega) w'
  have hb1 : ∀ b, (Sl.mk (some ⟨w'.heap.size, 0, none⟩) sh.len sh.len).blk b → b = w'.heap.size := by
    rintro b ⟨a, h, rfl⟩; cases h; rfl
  refine ⟨_, w1, hr1, Br.t rfl (hK _ _ ⟨by rw [List.map_replicate, ← hl]; exact hrows, fun b hb => by have := hb1 b hb; omega, E1⟩)⟩

theorem RetS.own' {w w' wv w0 : World} {e : TypeId} {sz : Nat} {rs : List (List Value)} {s : Sl} {H Hv : Nat → Prop} (h : RetS w e sz rs s w') (hs : Hst w0 Hv wv H w) : Own H w' e sz s rs :=
  ⟨h.rows, fun b hb hH => by have := h.own b hb; have := hs.lt b hH; omega⟩
theorem RetS.kept {w w' : World} {e : TypeId} {sz : Nat} {rs : List (List Value)} {s : Sl} {H : Nat → Prop} (h : RetS w e sz rs s w') : Kept H w w' := h.pure.keptP

def s_arbiter_fault (k1 f1 c1 : Int) (x1 : ByteArray) (g1 : Bool) (k2 f2 c2 : Int) (x2 : ByteArray) (g2 : Bool) : Int × Int × Int × Int × Int :=
  let f := Sp.fault ⟨k1, f1, c1, x1, g1⟩ ⟨k2, f2, c2, x2, g2⟩
  (f.who, f.c, f.kind, f.a, f.b)
theorem p_arbiter_fault (k1 f1 c1 : Int) (x1 : ByteArray) (g1 : Bool) (k2 f2 c2 : Int) (x2 : ByteArray) (g2 : Bool) (w0 : World) :
    Calls Try.prog 82 #[.agg #[.int .i64 k1, .int .i64 f1, .int .u64 c1, .string x1, .bool g1], .agg #[.int .i64 k2, .int .i64 f2, .int .u64 c2, .string x2, .bool g2]] w0
      (fun e w' => e = .returned (.agg #[.int .i64 (s_arbiter_fault k1 f1 c1 x1 g1 k2 f2 c2 x2 g2).1, .int .u64 (s_arbiter_fault k1 f1 c1 x1 g1 k2 f2 c2 x2 g2).2.1, .int .i64 (s_arbiter_fault k1 f1 c1 x1 g1 k2 f2 c2 x2 g2).2.2.1, .int .i64 (s_arbiter_fault k1 f1 c1 x1 g1 k2 f2 c2 x2 g2).2.2.2.1, .int .i64 (s_arbiter_fault k1 f1 c1 x1 g1 k2 f2 c2 x2 g2).2.2.2.2]) ∧ Pure w0 w') := by
  refine (c_arb_fault ⟨k1, f1, c1, x1, g1⟩ ⟨k2, f2, c2, x2, g2⟩ w0).mono ?_
  rintro _ w' ⟨r1, r2, r3, r4, r5, rfl, hf, E⟩
  refine ⟨?_, E⟩
  simp only [s_arbiter_fault, ← hf]
end Go.Proofs
