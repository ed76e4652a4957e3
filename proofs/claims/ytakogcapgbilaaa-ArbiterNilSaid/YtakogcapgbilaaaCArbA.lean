/- Contracts: escrow/arbiter, read. -/
import Derived.Test.YtakogcapgbilaaaCReadE
import Derived.Test.YtakogcapgbilaaaSeH
import Derived.Test.YtakogcapgbilaaaGArb
open Go Go.SE
namespace Go.Proofs
attribute [local irreducible] Calls

def lrow (l : Sp.Letter) : List Value := [.int .i64 l.kind, .int .i64 l.frm, .int .u64 l.c, .string l.text, .bool l.fake]
theorem slT_letter : SlType Try.prog 27 132 5 48 := by
  refine ⟨Try.underlying27, ⟨Try.t132, _, by kernel_rfl, (by kernel_rfl : Try.t132.zero = some (.agg #[.int .i64 0, .int .i64 0, .int .u64 0, .string ⟨#[]⟩, .bool false])), by kernel_rfl, by kernel_rfl, rfl⟩, by omega⟩
theorem zero_letter : ∀ i z, Try.prog.info? 132 = some i → i.zero = some z → z.cells = (lrow Sp.noLetter).toArray := by
  intro i z hi hz
  have h1 : Try.prog.info? 132 = some Try.t132 := by kernel_rfl
  rw [h1] at hi; cases hi
  have h2 : Try.t132.zero = some (.agg #[.int .i64 0, .int .i64 0, .int .u64 0, .string ⟨#[]⟩, .bool false]) := by kernel_rfl
  rw [h2] at hz; cases hz; rfl

def trows (ts : List Int) : List (List Value) := ts.map fun t => [.int .i64 t]
def readAll (L : Sp.Pool) (ts : List Int) : List Sp.Letter := ts.map fun t => (Sp.read L t).1

/-- what a call returns: a slice of its own -/
structure RetS (w : World) (e : TypeId) (sz : Nat) (rs : List (List Value)) (s : Sl) (w' : World) : Prop where
  rows : Rws w' e sz s rs
  own : ∀ b, s.blk b → w.heap.size ≤ b
  pure : Pure w w'

theorem c_arb_read (p : Addr) (sh : Sl) (ts : List Int) (w : World) {S : Nat → Prop} {L : Sp.Pool} {F : Nat → Prop} (hP : PoolAt w p L F) (hok : Sp.Ok L) (hs : Lst S w 1 sh (trows ts)) (hn : ts.length ≤ 1000000) :
    Calls Try.prog 79 #[.pointer (some p), sh.v] w (fun e w' => ∃ s : Sl, e = .returned s.v ∧ RetS w 132 5 ((readAll L ts).map lrow) s w') := by
  suffices key : ∀ K : Sl → World → Prop, (∀ s w', RetS w 132 5 ((readAll L ts).map lrow) s w' → K s w') → m_arbiter_read (some p) sh w K from
    w_arbiter_read _ _ w _ (key _ (fun _ _ h => h))
  intro K hK
  unfold m_arbiter_read
  have hl : sh.len = ts.length := by rw [hs.len]; simp [trows]
  obtain ⟨w1, hr1, hrows, E1⟩ := Rws.make (P := Try.prog) slT_letter zero_letter (k := .i64) (k' := .i64) (n := sh.len) (by omega) (by simp [maxLen]; omega) w
  refine ⟨_, w1, hr1, Br.f rfl ?_⟩
  have hb1 : ∀ b, (Sl.mk (some ⟨w.heap.size, 0, none⟩) sh.len sh.len).blk b → b = w.heap.size := by
    rintro b ⟨a, h, rfl⟩; cases h; rfl
  generalize hs1 : (Sl.mk (some ⟨w.heap.size, 0, none⟩) sh.len sh.len) = s1 at *
  have hrl : (readAll L ts).length = ts.length := by simp [readAll]
  refine ⟨fun x w' => ∃ j : Nat, x = j ∧ j ≤ ts.length ∧ Pure w w' ∧ Rws w' 132 5 s1 (((readAll L ts).map lrow).take j ++ List.replicate (ts.length - j) (lrow Sp.noLetter)), fun x _ => ((ts.length : Int) - x).toNat, ⟨0, rfl, Nat.zero_le _, E1, by simpa [hl] using hrows⟩, ?_⟩
  rintro _ wl ⟨j, rfl, hj, El, hrl2⟩
  unfold m_arbiter_read_l1
  refine ⟨fun h => ?_, fun h => ?_⟩
  · have hlt : j < ts.length := by have h := of_decide_eq_true h; omega
    obtain ⟨a, hat, _, hrow⟩ := (hs.pure El).at_ j (by simpa [trows] using hlt)
    have hcell : wl.cell? a = some (.int .i64 ts[j]) := by
      have := hrow 0 (by simp [trows])
      simpa [trows, Addr.add] using this
    refine ⟨a, hat, _, hcell, ?_⟩
    refine (c_letter_Read p ts[j] wl (hP.pure El) hok).mono ?_
    rintro _ w2 ⟨k, f, c, x, g, ok, rfl, hrd, E2⟩
    have hl1 : (⟨k, f, c, x, g⟩ : Sp.Letter) = (Sp.read L ts[j]).1 := congrArg Prod.fst hrd
    have hlen : (((readAll L ts).map lrow).take j ++ List.replicate (ts.length - j) (lrow Sp.noLetter)).length = ts.length := by rw [List.length_append, List.length_take, List.length_map, hrl, List.length_replicate]; omega
    obtain ⟨a2, hat2, hcan, hset⟩ := (hrl2.pure E2).set (i := j) (by omega) (r := lrow ⟨k, f, c, x, g⟩) rfl (k := (j : Int)) rfl
    refine ⟨_, _, _, _, _, _, rfl, a2, hat2, hcan, ?_⟩
    intro w3 hw3
    obtain ⟨hrows3, E3⟩ := hset w3 hw3
    rw [i64 (by omega) (by omega)]
    refine ⟨⟨j + 1, by omega, hlt, (El.trans E2).trans' E3 (fun i hi h => by have := hb1 i h; omega), ?_⟩, by show ((ts.length : Int) - ((j : Int) + 1)).toNat < ((ts.length : Int) - (j : Int)).toNat; omega⟩
    have e : (((readAll L ts).map lrow).take j ++ List.replicate (ts.length - j) (lrow Sp.noLetter)).set j (lrow ⟨k, f, c, x, g⟩) = ((readAll L ts).map lrow).take (j + 1) ++ List.replicate (ts.length - (j + 1)) (lrow Sp.noLetter) := by
      have hj2 : j < ((readAll L ts).map lrow).length := by rw [List.length_map, hrl]; omega
      have hl2 : (((readAll L ts).map lrow).take j).length = j := by rw [List.length_take]; omega
      have hrep : ts.length - j = (ts.length - (j + 1)) + 1 := by omega
      rw [List.set_append_right _ _ (by omega), hl2, Nat.sub_self, hrep, List.replicate_succ, List.set_cons_zero, List.take_succ_eq_append_getElem hj2, List.append_assoc]
      have hx : ((readAll L ts).map lrow)[j] = lrow ⟨k, f, c, x, g⟩ := by rw [hl1]; simp only [readAll, List.getElem_map]
      rw [hx, List.singleton_append]
    rw [e] at hrows3
    exact hrows3
  · have hge : j = ts.length := by have h := of_decide_eq_false h; omega
    refine hK _ _ ⟨?_, fun b hb => by have := hb1 b hb; omega, El⟩
    subst hge
    rw [Nat.sub_self, List.take_of_length_le (by simp [hrl])] at hrl2
    simpa using hrl2
end Go.Proofs
