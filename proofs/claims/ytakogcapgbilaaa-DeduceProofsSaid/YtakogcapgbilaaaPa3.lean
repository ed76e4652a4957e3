import Derived.Test.YtakogcapgbilaaaPa2
import Derived.Test.YtakogcapgbilaaaProg
import Derived.KernelRfl
import Derived.Test.YtakogcapgbilaaaPa0
section
open Go Go.SE
namespace Go.Proofs
attribute [local irreducible] Calls
def strow (s : Sp.Step) : List Value := [.int .i64 s.rule, .int .i64 s.a, .int .i64 s.b, .int .i64 s.t]
theorem slT_step : SlType Try.prog 76 167 4 32 := by
 refine ⟨Try.underlying76, ⟨Try.t167, _, by kernel_rfl, (by kernel_rfl : Try.t167.zero = some (.agg #[.int .i64 0, .int .i64 0, .int .i64 0, .int .i64 0])), by kernel_rfl, by kernel_rfl, rfl⟩, by omega⟩
def tru (_ : Unit) : Value := .bool true
def bmap (B : List Int) : List (Int × Unit) := B.map fun t => (t, ())
theorem bmap_keys (B : List Int) : (bmap B).map Prod.fst = B := by
 unfold bmap; rw [List.map_map]; exact List.map_id' B
theorem bmap_snoc (B : List Int) (t : Int) : bmap (B ++ [t]) = bmap B ++ [(t, ())] := by simp [bmap]
def PW (ma mb : Nat) (c5 : Addr) (sl : Sl) (b : Nat) : Prop := b = ma ∨ b = mb ∨ b = c5.block ∨ sl.blk b
def says (f : FuncId) (c1 c2 c3 c4 c5 : Addr) : Value := .func (.func f) #[] #[.pointer (some c1), .pointer (some c2), .pointer (some c3), .pointer (some c4), .pointer (some c5)]
structure PrfAt (w : World) (k : Addr) (c1 c2 c3 c4 c5 : Addr) (ma mb : Nat) (sl : Sl) (l : List Sp.Step) (B : List Int) : Prop where
 a1 : w.cell? c1 = some (.map (some ma))
 a2 : w.cell? c2 = some (.map (some mb))
 a3 : w.cell? c3 = some (.pointer (some k))
 a4 : w.cell? c4 = some (says 98 c1 c2 c3 c4 c5)
 a5 : Box w c5 [sl.v] 76
 am : IMap ikey w ma (Sp.amap l)
 bm : IMap tru w mb (bmap B)
 ls : Rws w 167 4 sl (l.map strow)
 d : ∀ b, PW ma mb c5 sl b → b ≠ c1.block ∧ b ≠ c2.block ∧ b ≠ c3.block ∧ b ≠ c4.block
 n1 : ma ≠ mb
 n2 : ma ≠ c5.block
 n3 : mb ≠ c5.block
 n4 : ¬ sl.blk ma
 n5 : ¬ sl.blk mb
 n6 : ¬ sl.blk c5.block
structure SaysAt (w : World) (k p : Addr) (c1 c2 c3 c4 c5 : Addr) (ma mb : Nat) (L : Sp.Pool) (G : List Int) (S : List Sp.Way) (F FP : Nat → Prop) (sl : Sl) (l : List Sp.Step) (B : List Int) : Prop where
 prf : PrfAt w k c1 c2 c3 c4 c5 ma mb sl l B
 know : KnowAt w k p G S F
 pool : PoolAt w p L FP
 dF : ∀ b, F b → ¬ PW ma mb c5 sl b
 dP : ∀ b, FP b → ¬ PW ma mb c5 sl b
section
variable {w w' : World} {k p c1 c2 c3 c4 c5 : Addr} {ma mb : Nat} {L : Sp.Pool} {G : List Int} {S : List Sp.Way} {F FP : Nat → Prop} {sl : Sl} {l : List Sp.Step} {B : List Int}
theorem PrfAt.ext {X : Nat → Prop} (h : PrfAt w k c1 c2 c3 c4 c5 ma mb sl l B) (hE : Ext X w w') (h1 : ∀ b, PW ma mb c5 sl b → ¬ X b) (x1 : ¬ X c1.block) (x2 : ¬ X c2.block) (x3 : ¬ X c3.block) (x4 : ¬ X c4.block) : PrfAt w' k c1 c2 c3 c4 c5 ma mb sl l B :=
 ⟨hE.cell h.a1 x1, hE.cell h.a2 x2, hE.cell h.a3 x3, hE.cell h.a4 x4, h.a5.ext hE (h1 _ (.inr (.inr (.inl rfl)))), h.am.ext hE (h1 _ (.inl rfl)), h.bm.ext hE (h1 _ (.inr (.inl rfl))), h.ls.ext hE (fun b hb => h1 b (.inr (.inr (.inr hb)))), h.d, h.n1, h.n2, h.n3, h.n4, h.n5, h.n6⟩
theorem PrfAt.lt (h : PrfAt w k c1 c2 c3 c4 c5 ma mb sl l B) {b : Nat} (hb : PW ma mb c5 sl b) : b < w.heap.size := by
 rcases hb with rfl | rfl | rfl | hb
 ·exact h.am.lt
 ·exact h.bm.lt
 ·exact h.a5.lt
 ·exact h.ls.lt hb
theorem SaysAt.ext {X : Nat → Prop} {n : Nat} (h : SaysAt w k p c1 c2 c3 c4 c5 ma mb L G S F FP sl l B) (hE : Ext X w w') (hn : ∀ b, X b → n ≤ b) (z1 : ∀ b, PW ma mb c5 sl b → b < n ∨ ¬ X b) (zc : c1.block < n ∧ c2.block < n ∧ c3.block < n ∧ c4.block < n) (zF : ∀ b, F b → b < n) (zP : ∀ b, FP b → b < n) : SaysAt w' k p c1 c2 c3 c4 c5 ma mb L G S F FP sl l B := by
 have hx : ∀ b, b < n → ¬ X b := fun b hb hX => by have := hn b hX; omega
 exact ⟨h.prf.ext hE (fun b hb => (z1 b hb).elim (hx b) id) (hx _ zc.1) (hx _ zc.2.1) (hx _ zc.2.2.1) (hx _ zc.2.2.2), h.know.ext hE (fun b hb => hx b (zF b hb)), h.pool.ext hE (fun b hb => hx b (zP b hb)), h.dF, h.dP⟩
theorem SaysAt.pure (h : SaysAt w k p c1 c2 c3 c4 c5 ma mb L G S F FP sl l B) (E : Pure w w') : SaysAt w' k p c1 c2 c3 c4 c5 ma mb L G S F FP sl l B :=
 ⟨h.prf.ext E (fun _ _ h => h) (fun h => h) (fun h => h) (fun h => h) (fun h => h), h.know.pure E, h.pool.pure E, h.dF, h.dP⟩
theorem SaysAt.zc (h : SaysAt w k p c1 c2 c3 c4 c5 ma mb L G S F FP sl l B) : c1.block < w.heap.size ∧ c2.block < w.heap.size ∧ c3.block < w.heap.size ∧ c4.block < w.heap.size :=
 ⟨World.block_lt_of_cell? w _ h.prf.a1, World.block_lt_of_cell? w _ h.prf.a2, World.block_lt_of_cell? w _ h.prf.a3, World.block_lt_of_cell? w _ h.prf.a4⟩
theorem PrfAt.bar (h : PrfAt w k c1 c2 c3 c4 c5 ma mb sl l B) (t : Int) : ∃ w', (Instr.mapUpdate 163 (.map (some mb)) (.int .i64 t) (.bool true)).run Try.prog w = .ok () w' ∧ (∃ B', (B' = B ∨ B' = B ++ [t]) ∧ PrfAt w' k c1 c2 c3 c4 c5 ma mb sl l B') ∧ Ext (· = mb) w w' := by
 have hd := h.d mb (.inr (.inl rfl))
 have back : ∀ {w' : World} {B' : List Int}, IMap tru w' mb (bmap B') → Ext (· = mb) w w' → PrfAt w' k c1 c2 c3 c4 c5 ma mb sl l B' := fun hI hE =>
  ⟨hE.cell h.a1 (fun e => hd.1 e.symm), hE.cell h.a2 (fun e => hd.2.1 e.symm), hE.cell h.a3 (fun e => hd.2.2.1 e.symm), hE.cell h.a4 (fun e => hd.2.2.2 e.symm), h.a5.ext hE (fun e => h.n3 e.symm), h.am.ext hE h.n1, hI, h.ls.ext hE (fun b hb e => h.n5 (e ▸ hb)), h.d, h.n1, h.n2, h.n3, h.n4, h.n5, h.n6⟩
 cases hl : SE.look (bmap B) t with
 | none =>
  obtain ⟨w', h1, h2, h3⟩ := h.bm.put (P := Try.prog) (T := 163) Try.underlying163 Try.underlying41 hl ()
  exact ⟨w', h1, ⟨_, .inr rfl, back (by rw [bmap_snoc]; exact h2) h3⟩, h3⟩
 | some v =>
  cases v
  obtain ⟨w', h1, h2, h3⟩ := h.bm.again (P := Try.prog) (T := 163) Try.underlying163 Try.underlying41 hl
  exact ⟨w', h1, ⟨_, .inl rfl, back h2 h3⟩, h3⟩
theorem PrfAt.barred (h : PrfAt w k c1 c2 c3 c4 c5 ma mb sl l B) (t : Int) : (Instr.lookup 163 (.map (some mb)) (.int .i64 t) false).run Try.prog w = .ok (.bool (decide (t ∈ B))) w := by
 rcases h.bm.get (P := Try.prog) (T := 163) Try.underlying163 Try.underlying41 (Try.zeroValue4 _) t false with ⟨h1, h2⟩ | ⟨v, h1, h2⟩
 ·have hn : t ∉ B := by have := look_none.1 h1; rwa [bmap_keys] at this
  rw [decide_eq_false hn]; exact h2
 ·have hy : t ∈ B := by have := look_mem h1; rw [← bmap_keys B]; exact List.mem_map.2 ⟨_, this, rfl⟩
  rw [decide_eq_true hy]; exact h2
end
structure SaysRet (w0 : World) (k p : Addr) (c1 c2 c3 c4 c5 : Addr) (ma mb : Nat) (L : Sp.Pool) (G : List Int) (S : List Sp.Way) (F FP : Nat → Prop) (sl : Sl) (l : List Sp.Step) (t r : Int) (ok : Bool) (w' : World) (sl' : Sl) (M : List Sp.Step) (B' : List Int) : Prop where
 st : SaysAt w' k p c1 c2 c3 c4 c5 ma mb L G S F FP sl' (l ++ M) B'
 prf : Sp.PrfOk L G (fun x => x ∈ Sp.wkeys S) (l ++ M) B'
 new : ∀ s ∈ M, Sp.rank S s.t ≤ Sp.rank S t ∧ (Sp.Sub L t s.t ∨ s.t ∈ Sp.wkeys S)
 idx : ok = true → ∃ i, r = ((i : Nat) : Int) ∧ ∃ hi : i < (l ++ M).length, (l ++ M)[i].t = t
 drv : ok = true ↔ Sp.Drv L (fun x => x ∈ Sp.wkeys S) t
 ext : Ext (PW ma mb c5 sl) w0 w'
 own : ∀ b, sl'.blk b → sl.blk b ∨ w0.heap.size ≤ b
 last : ok = true → M = [] ∨ Sp.tAt (l ++ M) (((l ++ M).length : Int) - 1) = t
structure SaysCur (w0 : World) (H : Nat → Prop) (w : World) (k p : Addr) (c1 c2 c3 c4 c5 : Addr) (ma mb : Nat) (L : Sp.Pool) (G : List Int) (S : List Sp.Way) (F FP : Nat → Prop) (sl : Sl) (l : List Sp.Step) (t : Int) (sl1 : Sl) (M B : _) : Prop where
 st : SaysAt w k p c1 c2 c3 c4 c5 ma mb L G S F FP sl1 (l ++ M) B
 prf : Sp.PrfOk L G (fun x => x ∈ Sp.wkeys S) (l ++ M) B
 new : ∀ s ∈ M, Sp.rank S s.t < Sp.rank S t ∧ (Sp.Sub L t s.t ∨ s.t ∈ Sp.wkeys S)
 ext : Ext (PW ma mb c5 sl) w0 w
 own : ∀ b, sl1.blk b → sl.blk b ∨ w0.heap.size ≤ b
 vis : ∀ b, sl1.blk b → ¬ H b
 hs : Hst w0 H w H w
section
variable {w0 w w' : World} {H H' : Nat → Prop} {k p c1 c2 c3 c4 c5 : Addr} {ma mb : Nat} {L : Sp.Pool} {G : List Int} {S : List Sp.Way} {F FP : Nat → Prop} {sl sl1 sl2 : Sl} {l M M2 : List Sp.Step} {B0 B B2 : List Int} {t : Int}
theorem PW.old (h : SaysAt w0 k p c1 c2 c3 c4 c5 ma mb L G S F FP sl l B0) (ho : ∀ b, sl1.blk b → sl.blk b ∨ w0.heap.size ≤ b) : ∀ b, PW ma mb c5 sl1 b → b < w0.heap.size → PW ma mb c5 sl b := by
 rintro b (hb | hb | hb | hb) hlt
 ·exact .inl hb
 ·exact .inr (.inl hb)
 ·exact .inr (.inr (.inl hb))
 ·exact (ho b hb).elim (fun h => .inr (.inr (.inr h))) (fun h => by omega)
theorem SaysCur.nh (h : SaysCur w0 H w k p c1 c2 c3 c4 c5 ma mb L G S F FP sl l t sl1 M B) (h0 : SaysAt w0 k p c1 c2 c3 c4 c5 ma mb L G S F FP sl l B0) : ∀ b, PW ma mb c5 sl1 b → ¬ H b := by
 have old : ∀ b, b < w0.heap.size → ¬ H b := fun b hb hh => by have := h.hs.old b hh; omega
 rintro b (rfl | rfl | rfl | hb)
 ·exact old _ (h0.prf.lt (.inl rfl))
 ·exact old _ (h0.prf.lt (.inr (.inl rfl)))
 ·exact old _ (h0.prf.lt (.inr (.inr (.inl rfl))))
 ·exact h.vis b hb
theorem SaysCur.hst (h : SaysCur w0 H w k p c1 c2 c3 c4 c5 ma mb L G S F FP sl l t sl1 M B) (h0 : SaysAt w0 k p c1 c2 c3 c4 c5 ma mb L G S F FP sl l B0) (hs : Hst w0 H w H' w') : SaysCur w0 H' w' k p c1 c2 c3 c4 c5 ma mb L G S F FP sl l t sl1 M B := by
 have dj := hs.disj (G := PW ma mb c5 sl1) (fun b hb => ⟨h.st.prf.lt hb, h.nh h0 b hb⟩)
 exact ⟨h.st.ext hs.ext hs.old (fun b hb => .inr (dj b hb)) h0.zc (fun b hb => h0.know.lt hb) (fun b hb => h0.pool.lt hb), h.prf, h.new, h.ext.hst hs, h.own, fun b hb => dj b (.inr (.inr (.inr hb))), hs.here⟩
theorem SaysCur.step {u r : Int} {ok : Bool} (h : SaysCur w0 H w k p c1 c2 c3 c4 c5 ma mb L G S F FP sl l t sl1 M B) (h0 : SaysAt w0 k p c1 c2 c3 c4 c5 ma mb L G S F FP sl l B0) (hr : SaysRet w k p c1 c2 c3 c4 c5 ma mb L G S F FP sl1 (l ++ M) u r ok w' sl2 M2 B2) (hu : Sp.rank S u < Sp.rank S t) (hsub : Sp.Sub L t u ∨ u ∈ Sp.wkeys S) (hcl : ∀ x, u ∈ Sp.wkeys S → Sp.rank S x ≤ Sp.rank S u → x ∈ Sp.wkeys S) :
  Kept H w w' ∧ SaysCur w0 H w' k p c1 c2 c3 c4 c5 ma mb L G S F FP sl l t sl2 (M ++ M2) B2 := by
 have hk : Kept H w w' := hr.ext.kept (fun b hb hx => h.nh h0 b hx hb)
 refine ⟨hk, by rw [← List.append_assoc]; exact hr.st, by rw [← List.append_assoc]; exact hr.prf, fun s hs => ?_, h.ext.trans' hr.ext (fun i hi hb => PW.old h0 h.own i hb hi), fun b hb => ?_, fun b hb hh => ?_, h.hs.again hk⟩
 ·rcases List.mem_append.1 hs with hs | hs
  ·exact h.new s hs
  ·obtain ⟨q1, q2⟩ := hr.new s hs
   refine ⟨by omega, ?_⟩
   rcases q2 with q2 | q2
   ·rcases hsub with h1 | h1
    ·exact .inl (h1.trans q2)
    ·exact .inr (hcl _ h1 q1)
   ·exact .inr q2
 ·rcases hr.own b hb with h1 | h1
  ·exact h.own b h1
  ·right; have := h.ext.size; omega
 ·rcases hr.own b hb with h1 | h1
  ·exact h.vis b h1 hh
  ·have := h.hs.lt b hh; omega
end
theorem rank_seen_le {S : List Sp.Way} {u x : Int} (hu : u ∈ Sp.wkeys S) (h : Sp.rank S x ≤ Sp.rank S u) : x ∈ Sp.wkeys S := by
 refine Classical.byContradiction fun hx => ?_
 have := Sp.rank_seen hu
 rw [Sp.rank_un hx] at h
 omega
end Go.Proofs
end
section
open Go Go.SE
namespace Go.Proofs
attribute [local irreducible] Calls
theorem c_says (k p c1 c2 c3 c4 c5 : Addr) (ma mb : Nat) {L : Sp.Pool} {G : List Int} {S : List Sp.Way} {F FP : Nat → Prop} (hW : Sp.Wf L) (hk : Sp.KnowOk L G S) : ∀ (n : Nat) (t : Int) (w0 : World) (sl : Sl) (l : List Sp.Step) (B : List Int), Sp.rank S t < n →
  SaysAt w0 k p c1 c2 c3 c4 c5 ma mb L G S F FP sl l B → Sp.PrfOk L G (fun x => x ∈ Sp.wkeys S) l B →
  Calls Try.prog 98 #[.int .i64 t, .pointer (some c1), .pointer (some c2), .pointer (some c3), .pointer (some c4), .pointer (some c5)] w0 (fun e w' => ∃ r : Int, ∃ ok : Bool, e = .returned (.tuple #[.int .i64 r, .bool ok]) ∧ ∃ sl' M B', SaysRet w0 k p c1 c2 c3 c4 c5 ma mb L G S F FP sl l t r ok w' sl' M B') := by
 intro n
 induction n with
 | zero => intro t w0 sl l B h; omega
 | succ n ih =>
 intro t w0 sl l B hrk h0 hp0
 suffices key : ∀ K : Int → Bool → World → Prop, (∀ r ok w' sl' M B', SaysRet w0 k p c1 c2 c3 c4 c5 ma mb L G S F FP sl l t r ok w' sl' M B' → K r ok w') → m_deduce_Know_Proof_1 t c1 c2 c3 c4 c5 w0 K from
  w_deduce_Know_Proof_1 _ _ _ _ _ _ w0 _ (key _ (fun r ok w' sl' M B' h => ⟨sl', M, B', h⟩))
 intro K hK
 have hKs : ∀ r u t, u ∈ Sp.wkeys S → Sp.Arises L r u t → t ∈ Sp.wkeys S := fun r u t hu ha => hk.closed u hu r t ha
 unfold m_deduce_Know_Proof_1
 rcases h0.prf.am.get (P := Try.prog) (T := 162) Try.underlying162 Try.underlying41 (Try.zeroValue3 _) t true with ⟨hl, hrun⟩ | ⟨v, hl, hrun⟩
 case inr =>
  obtain ⟨i, hi, rfl, hit⟩ := Sp.amap_look hl
  refine ⟨_, h0.prf.a1, _, true, hrun, Br.t rfl (hK _ _ w0 sl [] B ⟨by simpa using h0, by simpa using hp0, by simp, fun _ => ⟨i, rfl, by simpa using hi, by simpa using hit⟩, ⟨fun _ => hit ▸ hp0.drv _ (List.getElem_mem hi), fun _ => rfl⟩, Ext.refl _, fun b hb => .inl hb, fun _ => .inl rfl⟩)⟩
 case inl =>
 have htl : t ∉ l.map Sp.Step.t := Sp.amap_none.1 hl
 refine ⟨_, h0.prf.a1, _, false, hrun, Br.f rfl ?_⟩
 intro H1 w2 hs2
 have old : ∀ {H : Nat → Prop} {w : World}, Hst w0 H w H w → ∀ b, b < w0.heap.size → ¬ H b := fun hs b hb hh => by have := hs.old b hh; omega
 have C0 : SaysCur w0 None w0 k p c1 c2 c3 c4 c5 ma mb L G S F FP sl l t sl [] B := ⟨by simpa using h0, by simpa using hp0, by simp, Ext.refl _, fun b hb => .inl hb, fun b _ h => h, Hst.start w0⟩
 have C2 := C0.hst h0 hs2
 have c5h : ∀ {H : Nat → Prop} {w : World} {sl1 : Sl} {M B1 : _}, SaysCur w0 H w k p c1 c2 c3 c4 c5 ma mb L G S F FP sl l t sl1 M B1 → ¬ H c5.block := fun C => C.nh h0 _ (.inr (.inr (.inl rfl)))
 have J1f : ∀ (r a b : Int) (H : Nat → Prop) (w : World) (sl1 : Sl) (M : List Sp.Step) (B1 : List Int), SaysCur w0 H w k p c1 c2 c3 c4 c5 ma mb L G S F FP sl l t sl1 M B1 → ¬ Sp.Drv L (fun x => x ∈ Sp.wkeys S) t → m_deduce_Know_Proof_1_j1 t c1 c2 c5 false r a b t H w K := by
  intro r a b H w sl1 M B1 C hnd
  unfold m_deduce_Know_Proof_1_j1
  refine Br.t rfl ?_
  obtain ⟨w5, hr5, ⟨B', hB', P5⟩, E5⟩ := C.st.prf.bar t
  have hmb := C.nh h0 mb (.inr (.inl rfl))
  have hpb : Sp.PrfOk L G (fun x => x ∈ Sp.wkeys S) (l ++ M) B' := by
   rcases hB' with rfl | rfl
   ·exact C.prf
   ·exact C.prf.bars hnd
  refine ⟨_, C.st.prf.a2, w5, hr5, E5.kept (fun b hb e => hmb (e ▸ hb)), hK 0 false w5 sl1 M B' ⟨⟨P5, C.st.know.ext E5 (fun b hb e => C.st.dF b hb (.inr (.inl e))), C.st.pool.ext E5 (fun b hb e => C.st.dP b hb (.inr (.inl e))), C.st.dF, C.st.dP⟩, hpb, fun s hs => ⟨Nat.le_of_lt (C.new s hs).1, (C.new s hs).2⟩, (fun h => by cases h), ⟨(fun h => by cases h), fun h => absurd h hnd⟩, C.ext.trans' E5 (fun i hi e => .inr (.inl e)), C.own, (fun h => by cases h)⟩⟩
 have J1t : ∀ (r a b : Int) (H : Nat → Prop) (w : World) (sl1 : Sl) (M : List Sp.Step) (B1 : List Int), SaysCur w0 H w k p c1 c2 c3 c4 c5 ma mb L G S F FP sl l t sl1 M B1 → Sp.fol L G (l ++ M) ⟨r, a, b, t⟩ = true → Sp.Drv L (fun x => x ∈ Sp.wkeys S) t → m_deduce_Know_Proof_1_j1 t c1 c2 c5 true r a b t H w K := by
  intro r a b H w sl1 M B1 C hfol hdt
  unfold m_deduce_Know_Proof_1_j1
  refine Br.f rfl ?_
  have hsl : sl1.len = (l ++ M).length := by rw [C.st.prf.ls.len]; simp
  have hfew := C.prf.few
  have hL6 := hW.ok.few
  have htn : t ∉ (l ++ M).map Sp.Step.t := by
   rw [List.map_append, List.mem_append]
   rintro (h | h)
   ·exact htl h
   ·obtain ⟨s, hs, e⟩ := List.mem_map.1 h
    have := (C.new s hs).1
    rw [e] at this; omega
  have hlk := Sp.amap_none.2 htn
  obtain ⟨w5, hr5, I5, E5⟩ := C.st.prf.am.put (P := Try.prog) (T := 162) Try.underlying162 Try.underlying41 hlk ((l ++ M).length : Int)
  have hma := C.nh h0 ma (.inl rfl)
  have da := C.st.prf.d ma (.inl rfl)
  have b5 : Box w5 c5 [sl1.v] 76 := C.st.prf.a5.ext E5 (fun e => C.st.prf.n2 e.symm)
  refine ⟨_, C.st.prf.a1, sl1, C.st.prf.a5.cell0, w5, by rw [hsl]; exact hr5, E5.kept (fun b hb e => hma (e ▸ hb)), sl1, b5.cell0, ?_⟩
  intro p3 w7 h7
  have E7 : Pure w5 w7 := Ext.new h7
  have ls7 := (C.st.prf.ls.ext E5 (fun b hb e => C.st.prf.n4 (e ▸ hb))).pure E7
  obtain ⟨s1, w8, hr8, R8, X8, f8⟩ := ls7.append (P := Try.prog) (ty := 76) (c := 1) slT_step (r := strow ⟨r, a, b, t⟩) (Box.of_new h7).row rfl rfl (by simp at hfew ⊢; omega) (by simp [maxLen] at hfew ⊢; omega)
  have b8 : Box w8 c5 [sl1.v] 76 := (b5.pure E7).ext X8 C.st.prf.n6
  refine ⟨s1, w8, hr8, X8.kept (fun b hb hx => C.vis b hx hb), b8.canW0 (by simp), c5h C, ?_⟩
  rintro _ rfl
  have E9 := Ext.setCell (w := w8) c5 s1.v
  have z5 : w.heap.size ≤ w7.heap.size := by have := E5.size; have := E7.size; omega
  have f8' : ∀ b, s1.blk b → sl1.blk b ∨ w.heap.size ≤ b := fun b hb => (f8 b hb).imp_right (fun h => by omega)
  have X : Ext (PW ma mb c5 sl1) w (w8.setCell c5 s1.v) := (((E5.mono (fun b _ e => .inl e)).trans (E7.pure (F := PW ma mb c5 sl1))).trans (X8.mono (fun b _ h => .inr (.inr (.inr h))))).trans (E9.mono (fun b _ e => .inr (.inr (.inl e))))
  have nx : ∀ {b}, (b = c1.block ∨ b = c2.block ∨ b = c3.block ∨ b = c4.block) → ¬ PW ma mb c5 sl1 b := fun hb hx => by
   obtain ⟨d1, d2, d3, d4⟩ := C.st.prf.d _ hx
   rcases hb with h | h | h | h
   ·exact d1 h
   ·exact d2 h
   ·exact d3 h
   ·exact d4 h
  have lt1 : ∀ {b}, PW ma mb c5 sl1 b → b < w.heap.size := fun hb => C.st.prf.lt hb
  have I9 : IMap ikey (w8.setCell c5 s1.v) ma (Sp.amap ((l ++ M) ++ [⟨r, a, b, t⟩])) := by
   rw [Sp.amap_snoc]
   exact ((I5.pure E7).ext X8 C.st.prf.n4).ext E9 C.st.prf.n2
  have P9 : PrfAt (w8.setCell c5 s1.v) k c1 c2 c3 c4 c5 ma mb s1 ((l ++ M) ++ [⟨r, a, b, t⟩]) B1 := by
   refine ⟨X.cell C.st.prf.a1 (nx (.inl rfl)), X.cell C.st.prf.a2 (nx (.inr (.inl rfl))), X.cell C.st.prf.a3 (nx (.inr (.inr (.inl rfl)))), X.cell C.st.prf.a4 (nx (.inr (.inr (.inr rfl)))), b8.set0, I9, ?_, ?_, ?_, C.st.prf.n1, C.st.prf.n2, C.st.prf.n3, ?_, ?_, ?_⟩
   ·have := ((C.st.prf.bm.ext E5 (fun e => C.st.prf.n1 e.symm)).pure E7).ext X8 C.st.prf.n5
    exact this.ext E9 C.st.prf.n3
   ·have hne : ∀ b, s1.blk b → b ≠ c5.block := fun b hb e => by
     rcases f8' b hb with h | h
     ·exact C.st.prf.n6 (e ▸ h)
     ·have := lt1 (.inr (.inr (.inl rfl))); omega
    have := R8.ext E9 hne
    simpa using this
   ·rintro b (hb | hb | hb | hb)
    ·exact C.st.prf.d b (.inl hb)
    ·exact C.st.prf.d b (.inr (.inl hb))
    ·exact C.st.prf.d b (.inr (.inr (.inl hb)))
    ·rcases f8' b hb with h | h
     ·exact C.st.prf.d b (.inr (.inr (.inr h)))
     ·have := C.st.zc; omega
   ·intro hb; rcases f8' _ hb with h | h
    ·exact C.st.prf.n4 h
    ·have := lt1 (.inl rfl); omega
   ·intro hb; rcases f8' _ hb with h | h
    ·exact C.st.prf.n5 h
    ·have := lt1 (.inr (.inl rfl)); omega
   ·intro hb; rcases f8' _ hb with h | h
    ·exact C.st.prf.n6 h
    ·have := lt1 (.inr (.inr (.inl rfl))); omega
  have hlk9 : SE.look (Sp.amap ((l ++ M) ++ [⟨r, a, b, t⟩])) t = some ((l ++ M).length : Int) := by
   rw [Sp.amap_snoc, look_snoc (by rw [Sp.amap_keys]; exact htn), if_pos rfl]
  rcases I9.get (P := Try.prog) (T := 162) Try.underlying162 Try.underlying41 (Try.zeroValue3 _) t false with ⟨hx, _⟩ | ⟨v, hv, hrun9⟩
  ·rw [hx] at hlk9; cases hlk9
  ·rw [hv] at hlk9; cases hlk9
   have dg : ∀ {Z : Nat → Prop}, (∀ b, Z b → b < w.heap.size) → (∀ b, Z b → ¬ PW ma mb c5 sl1 b) → ∀ b, Z b → ¬ PW ma mb c5 s1 b := fun hz h b hb hx => by
    rcases hx with hx | hx | hx | hx
    ·exact h b hb (.inl hx)
    ·exact h b hb (.inr (.inl hx))
    ·exact h b hb (.inr (.inr (.inl hx)))
    ·rcases f8' b hx with h' | h'
     ·exact h b hb (.inr (.inr (.inr h')))
     ·have := hz b hb; omega
   refine ⟨_, P9.a1, _, hrun9, hK _ true _ s1 (M ++ [⟨r, a, b, t⟩]) B1 ⟨⟨by rw [← List.append_assoc]; exact P9, C.st.know.ext X (fun b hb => C.st.dF b hb), C.st.pool.ext X (fun b hb => C.st.dP b hb), dg (fun b hb => C.st.know.lt hb) C.st.dF, dg (fun b hb => C.st.pool.lt hb) C.st.dP⟩, by rw [← List.append_assoc]; exact C.prf.snoc hfol htn hdt, fun s hs => ?_, fun _ => ⟨(l ++ M).length, rfl, by simp, by simp⟩, ⟨fun _ => hdt, fun _ => rfl⟩, C.ext.trans' X (fun i hi hb => PW.old h0 C.own i hb hi), fun b hb => ?_, fun _ => .inr ?_⟩⟩
   ·rcases List.mem_append.1 hs with hs | hs
    ·exact ⟨Nat.le_of_lt (C.new s hs).1, (C.new s hs).2⟩
    ·simp at hs; subst hs; exact ⟨Nat.le_refl _, .inl (.refl t)⟩
   ·rcases f8' b hb with h | h
    ·exact C.own b h
    ·right; have := C.ext.size; omega
   ·rw [← List.append_assoc]
    have e : ((((l ++ M) ++ [(⟨r, a, b, t⟩ : Sp.Step)]).length : Int) - 1) = ((l ++ M).length : Int) := by simp; omega
    rw [e, Sp.tAt_of (by simp)]
    simp
 have hcall : ∀ (u : Int) (H : Nat → Prop) (w : World) (sl1 : Sl) (M : List Sp.Step) (B1 : List Int), SaysCur w0 H w k p c1 c2 c3 c4 c5 ma mb L G S F FP sl l t sl1 M B1 → Sp.rank S u < Sp.rank S t → (Sp.Sub L t u ∨ u ∈ Sp.wkeys S) → ∀ (Q : Int → Bool → World → Prop),
   (∀ (r : Int) (ok : Bool) (w' : World) (sl2 : Sl) (M2 : List Sp.Step) (B2 : List Int), SaysCur w0 H w' k p c1 c2 c3 c4 c5 ma mb L G S F FP sl l t sl2 (M ++ M2) B2 → (ok = true ↔ Sp.Drv L (fun x => x ∈ Sp.wkeys S) u) → (ok = true → ∃ i, r = ((i : Nat) : Int) ∧ ∃ hi : i < (l ++ (M ++ M2)).length, (l ++ (M ++ M2))[i].t = u) → Kept H w w' → Q r ok w') →
   ∃ v13 : Value, w.cell? c4 = some v13 ∧ ∃ (f1 : FuncId) (fs1 cs1 : Array Value), v13 = .func (.func f1) fs1 cs1 ∧ (∀ args w, (callFunc f1 args).run Try.prog w = .ok (.enter f1 args) w) ∧ Calls Try.prog f1 (fs1 ++ #[(.int .i64 u)] ++ cs1) w (fun e w' => ∃ r1 : Int, ∃ r2 : Bool, e = .returned (.tuple #[(.int .i64 r1), (.bool r2)]) ∧ Kept H w w' ∧ Q r1 r2 w') := by
  intro u H w sl1 M B1 C hu hsub Q hQ
  refine ⟨_, C.st.prf.a4, 98, #[], _, rfl, Try.call98, ?_⟩
  refine (ih u w sl1 (l ++ M) B1 (by omega) C.st C.prf).mono ?_
  rintro _ w' ⟨r, ok, rfl, sl2, M2, B2, hret⟩
  obtain ⟨hkp, C2⟩ := C.step h0 hret hu hsub (fun x hu hx => rank_seen_le hu hx)
  refine ⟨r, ok, rfl, hkp, hQ r ok w' sl2 M2 B2 C2 hret.drv (fun h => ?_) hkp⟩
  obtain ⟨i, e, hi, hit⟩ := hret.idx h
  refine ⟨i, e, by rw [← List.append_assoc]; exact hi, ?_⟩
  simpa [List.append_assoc] using hit
 obtain ⟨sg, m, sk, k2, hF2⟩ := C2.st.know
 obtain ⟨vr, vf, hlook, hway⟩ := k2.look t
 refine ⟨_, C2.st.prf.a2, _, C2.st.prf.barred t, _, C2.st.prf.a3, k, rfl, _, k2.box.cell rfl, vr, vf, _, hlook, fun hc => ?_, fun hc => ?_⟩
 ·-- it is seen
  have hts : t ∈ Sp.wkeys S := by simpa using hc
  have hdt : Sp.Drv L (fun x => x ∈ Sp.wkeys S) t := .seen hts
  have hnB : decide (t ∈ B) = false := decide_eq_false (fun hb => hp0.bar t hb hdt)
  have hin := hk.inp t hts
  have hin' : ¬ Sp.inP L t = false := by simp [hin]
  rw [hnB]
  rcases Sp.way_of hk.toWaysOk (look_mem (hway hts)) with ⟨rfl, rfl, hg⟩ | ⟨hne, hari, hfs, hrf⟩
  ·refine ⟨fun h => by simp at h, fun _ => ?_⟩
   intro H2 w10 hs10
   have C10 := C2.hst h0 hs10
   refine J1t 0 0 0 H2 w10 sl [] B C10 ?_ hdt
   unfold Sp.fol; rw [if_neg hin', if_pos rfl]; simp [hg]
  ·refine ⟨fun _ => ?_, fun h => absurd (by simpa using h) hne⟩
   intro H2 w10 hs10
   have C10 := C2.hst h0 hs10
   refine hcall vf H2 w10 sl [] B C10 hrf (.inr hfs) _ ?_
   intro r1 ok w11 sl2 M2 B2 C11 hd11 hi11 _ w12 hs12
   have C12 := C11.hst h0 hs12
   obtain ⟨i, rfl, hi, hit⟩ := hi11 (hd11.2 (.seen hfs))
   refine J1t vr i 0 H2 w12 sl2 _ B2 C12 ?_ hdt
   have hr := hari.rule
   unfold Sp.fol
   rw [if_neg hin', if_neg hne, if_pos hr]
   have h1 := Sp.ahead_of hi
   have h2 := Sp.tAt_of hi
   rw [hit] at h2
   simp only [h1, h2, Bool.true_and, Bool.and_eq_true, beq_iff_eq, true_and]
   exact (Sp.arisesB_iff hr).2 hari
 ·-- it is not
  have hts : t ∉ Sp.wkeys S := by simpa using hc
  refine ⟨fun hb => ?_, fun hb => ?_⟩
  ·intro H2 w4 hs4
   have C4 := C2.hst h0 hs4
   refine ⟨_, C4.st.prf.a3, ?_⟩
   refine (c_ded_made k p t w4 C4.st.know C4.st.pool hW).mono ?_
   rintro _ w13 ⟨r3, r4, r5, r6, rfl, hmade, E13⟩
   refine ⟨r3, r4, r5, r6, rfl, E13.keptP, ?_⟩
   have C13 : SaysCur w0 H2 w13 k p c1 c2 c3 c4 c5 ma mb L G S F FP sl l t sl [] B := ⟨C4.st.pure E13, C4.prf, C4.new, C4.ext.thenPure E13, C4.own, C4.vis, C4.hs.again E13.keptP⟩
   have J2 : ∀ (H : Nat → Prop) (w : World) (sl1 : Sl) (M : List Sp.Step) (B1 : List Int) (ok4 : Bool) (rl a : Int), SaysCur w0 H w k p c1 c2 c3 c4 c5 ma mb L G S F FP sl l t sl1 M B1 →
     (ok4 = false → ¬ Sp.Drv L (fun x => x ∈ Sp.wkeys S) t) →
     (ok4 = true → r4 ≤ 0 → Sp.fol L G (l ++ M) ⟨rl, a, 0, t⟩ = true ∧ Sp.Drv L (fun x => x ∈ Sp.wkeys S) t) →
     (ok4 = true → 0 < r4 → Sp.rank S r4 < Sp.rank S t ∧ (Sp.Sub L t r4 ∨ r4 ∈ Sp.wkeys S) ∧ (Sp.Drv L (fun x => x ∈ Sp.wkeys S) r4 → Sp.Drv L (fun x => x ∈ Sp.wkeys S) t) ∧ (Sp.Drv L (fun x => x ∈ Sp.wkeys S) t → Sp.Drv L (fun x => x ∈ Sp.wkeys S) r4) ∧
      ∀ M2 (i : Nat) (hi : i < (l ++ (M ++ M2)).length), (l ++ (M ++ M2))[i].t = r4 → Sp.fol L G (l ++ (M ++ M2)) ⟨rl, a, i, t⟩ = true) →
     m_deduce_Know_Proof_1_j2 t c1 c2 c4 c5 r4 ok4 rl a 0 t w0 H w K := by
    intro H w sl1 M B1 ok4 rl a C h1 h2 h3
    unfold m_deduce_Know_Proof_1_j2
    refine ⟨fun hc => ?_, fun hc => ?_⟩
    ·rw [Bool.and_eq_true] at hc
     obtain ⟨hok, hpos⟩ := hc
     have hpos := of_decide_eq_true hpos
     obtain ⟨g1, g2, g3, g4, g5⟩ := h3 hok hpos
     intro H5 w19 hs19
     have C19 := C.hst h0 hs19
     refine hcall r4 H5 w19 sl1 M B1 C19 g1 g2 _ ?_
     intro r7 r8 w20 sl2 M2 B2 C20 hd20 hi20 _ w21 hs21
     have C21 := C20.hst h0 hs21
     cases r8 with
     | false => exact J1f _ _ _ H5 w21 sl2 _ B2 C21 (fun hd => by have := hd20.2 (g4 hd); cases this)
     | true =>
      obtain ⟨i, rfl, hi, hit⟩ := hi20 rfl
      exact J1t _ _ _ H5 w21 sl2 _ B2 C21 (g5 M2 i hi hit) (g3 (hd20.1 rfl))
    ·intro H5 w19 hs19
     have C19 := C.hst h0 hs19
     cases ok4 with
     | false => exact J1f _ _ _ H5 w19 sl1 M B1 C19 (h1 rfl)
     | true =>
      have hle : r4 ≤ 0 := by simpa using hc
      obtain ⟨q1, q2⟩ := h2 rfl hle
      exact J1t _ _ _ H5 w19 sl1 M B1 C19 q1 q2
   cases hin : Sp.inP L t with
   | false =>
    have hm : Sp.madeS L S t = (0, 0, false, false) := by unfold Sp.madeS; rw [if_pos hin]
    rw [hm] at hmade; cases hmade
    have hnd : ¬ Sp.Drv L (fun x => x ∈ Sp.wkeys S) t := fun hd => by
     have hnode : Sp.nodeOf L t = Sp.noNode := by unfold Sp.nodeOf; rw [Sp.get_none hin]; rfl
     rcases hd.inv with h | h | ⟨h, _⟩ | ⟨h, _⟩ | ⟨h, _⟩
     ·exact hts h
     all_goals (rw [hnode] at h; exact absurd h (by decide))
    refine ⟨fun h => by simp at h, fun _ => ?_⟩
    intro H4 w18 hs18
    exact J2 H4 w18 sl [] B false _ _ (C13.hst h0 hs18) (fun _ => hnd) (fun h => by cases h) (fun h => by cases h)
   | true =>
   have hin' : ¬ Sp.inP L t = false := by simp [hin]
   have ht1 := (Sp.inP_iff.1 hin).1
   generalize hn : Sp.nodeOf L t = n at *
   have hm := hmade
   unfold Sp.madeS at hm
   rw [if_neg hin', hn] at hm
   have kx : ∀ x ∈ Sp.kidsOf n, Sp.inP L x = true ∧ x < t := by have := (hW.node hin).2.2.2.2.1; rw [hn] at this; exact this
   rcases Sp.kind_cases hW hin with hk1 | hk4 | hk5 | hk6 | hk7
   ·rw [hn] at hk1
    rw [if_pos hk1] at hm; cases hm
    refine ⟨fun h => by simp at h, fun _ => ?_⟩
    intro H4 w18 hs18
    have hd : Sp.Drv L (fun x => x ∈ Sp.wkeys S) t := .free (by rw [hn]; exact hk1)
    refine J2 H4 w18 sl [] B true _ _ (C13.hst h0 hs18) (fun h => by cases h) (fun _ _ => ⟨?_, hd⟩) (fun _ h => by omega)
    unfold Sp.fol; rw [if_neg hin', hn]; simp [hk1]
   ·rw [hn] at hk4
    rw [if_neg (by rw [hk4]; decide), if_pos hk4] at hm; cases hm
    have ha := kx n.a (Sp.kids_a (.inl hk4))
    have hb' := kx n.b (Sp.kids_b hk4)
    have ha1 := (Sp.inP_iff.1 ha.1).1
    have hb1 := (Sp.inP_iff.1 hb'.1).1
    have sa : Sp.Sub L t n.a := .kid (.refl t) (by rw [hn]; exact Sp.kids_a (.inl hk4))
    have sb : Sp.Sub L t n.b := .kid (.refl t) (by rw [hn]; exact Sp.kids_b hk4)
    have inv : Sp.Drv L (fun x => x ∈ Sp.wkeys S) t → Sp.Drv L (fun x => x ∈ Sp.wkeys S) n.a ∧ Sp.Drv L (fun x => x ∈ Sp.wkeys S) n.b := fun hd => by
     rcases hd.inv with h | h | ⟨_, h1, h2⟩ | ⟨h, _⟩ | ⟨h, _⟩
     ·exact absurd h hts
     ·rw [hn, hk4] at h; exact absurd h (by decide)
     ·rw [hn] at h1 h2; exact ⟨h1, h2⟩
     ·rw [hn, hk4] at h; cases h
     ·rw [hn, hk4] at h; exact absurd h (by decide)
    refine ⟨fun _ => ?_, fun h => by simp at h; omega⟩
    intro H4 w18 hs18
    refine hcall n.a H4 w18 sl [] B (C13.hst h0 hs18) (Sp.rank_kid hts ha1 ha.2) (.inl sa) _ ?_
    intro r9 r10 w22 sl2 M2 B2 C22 hd22 hi22 _ w23 hs23
    have C23 := C22.hst h0 hs23
    refine J2 H4 w23 sl2 _ B2 r10 _ _ C23 (fun h hd => by have := hd22.2 (inv hd).1; rw [h] at this; cases this) (fun _ h => by omega) (fun h _ => ⟨Sp.rank_kid hts hb1 hb'.2, .inl sb, fun hd => .pair (by rw [hn]; exact hk4) (by rw [hn]; exact hd22.1 h) (by rw [hn]; exact hd), fun hd => (inv hd).2, ?_⟩)
    intro M3 i hi hit
    obtain ⟨i1, rfl, hi1, hit1⟩ := hi22 h
    have hi1' : i1 < (l ++ (([] ++ M2) ++ M3)).length := by simp at hi1 ⊢; omega
    have e1 : Sp.tAt (l ++ (([] ++ M2) ++ M3)) (i1 : Int) = n.a := by
     rw [← List.append_assoc, Sp.tAt_app hi1]; exact hit1
    have e2 := Sp.tAt_of hi
    rw [hit] at e2
    clear hit
    generalize l ++ (([] ++ M2) ++ M3) = l' at *
    unfold Sp.fol; rw [if_neg hin', hn]
    simp [hk4, Sp.ahead_of hi, Sp.ahead_of hi1', e1, e2]
   ·rw [hn] at hk5
    rw [if_neg (by rw [hk5]; decide), if_neg (by rw [hk5]; decide), if_pos hk5] at hm; cases hm
    have ha := kx n.a (Sp.kids_a (.inr (.inl hk5)))
    have ha1 := (Sp.inP_iff.1 ha.1).1
    have sa : Sp.Sub L t n.a := .kid (.refl t) (by rw [hn]; exact Sp.kids_a (.inr (.inl hk5)))
    have inv : Sp.Drv L (fun x => x ∈ Sp.wkeys S) t → Sp.Drv L (fun x => x ∈ Sp.wkeys S) n.a := fun hd => by
     rcases hd.inv with h | h | ⟨h, _⟩ | ⟨_, h⟩ | ⟨h, _⟩
     ·exact absurd h hts
     ·rw [hn, hk5] at h; exact absurd h (by decide)
     ·rw [hn, hk5] at h; cases h
     ·rw [hn] at h; exact h
     ·rw [hn, hk5] at h; exact absurd h (by decide)
    refine ⟨fun _ => ?_, fun h => by simp at h; omega⟩
    intro H4 w18 hs18
    refine hcall n.a H4 w18 sl [] B (C13.hst h0 hs18) (Sp.rank_kid hts ha1 ha.2) (.inl sa) _ ?_
    intro r9 r10 w22 sl2 M2 B2 C22 hd22 hi22 _ w23 hs23
    have C23 := C22.hst h0 hs23
    refine J2 H4 w23 sl2 _ B2 r10 _ _ C23 (fun h hd => by have := hd22.2 (inv hd); rw [h] at this; cases this) (fun h _ => ⟨?_, .hash (by rw [hn]; exact hk5) (by rw [hn]; exact hd22.1 h)⟩) (fun _ h => by omega)
    obtain ⟨i1, rfl, hi1, hit1⟩ := hi22 h
    have e1 := Sp.tAt_of hi1
    rw [hit1] at e1
    clear hit1
    have q1 := Sp.ahead_of hi1
    generalize l ++ ([] ++ M2) = l' at *
    unfold Sp.fol; rw [if_neg hin', hn]
    simp [hk5, q1, e1]
   ·rw [hn] at hk6
    rw [if_neg (by rw [hk6]; decide), if_neg (by rw [hk6]; decide), if_neg (by rw [hk6]; decide), if_pos hk6] at hm; cases hm
    have hnd : ¬ Sp.Drv L (fun x => x ∈ Sp.wkeys S) t := fun hd => by
     rcases hd.inv with h | h | ⟨h, _⟩ | ⟨h, _⟩ | ⟨h, _⟩
     ·exact hts h
     all_goals (rw [hn, hk6] at h; exact absurd h (by decide))
    refine ⟨fun h => by simp at h, fun _ => ?_⟩
    intro H4 w18 hs18
    exact J2 H4 w18 sl [] B false _ _ (C13.hst h0 hs18) (fun _ => hnd) (fun h => by cases h) (fun h => by cases h)
   ·rw [hn] at hk7
    obtain ⟨x4, x5, x6, xf⟩ := Sp.shows_ne hk7
    rw [if_neg (by rw [xf]; decide), if_neg x4, if_neg x5, if_neg x6] at hm
    generalize hko : Sp.keyOf L (Sp.whoOf n) = ko at *
    obtain ⟨key, kok⟩ := ko
    simp only [Prod.mk.injEq] at hm
    obtain ⟨rfl, rfl, rfl, rfl⟩ := hm
    have ha := kx n.a (Sp.kids_a (.inr (.inr hk7)))
    have ha1 := (Sp.inP_iff.1 ha.1).1
    have sa : Sp.Sub L t n.a := .kid (.refl t) (by rw [hn]; exact Sp.kids_a (.inr (.inr hk7)))
    have inv : Sp.Drv L (fun x => x ∈ Sp.wkeys S) t → Sp.Drv L (fun x => x ∈ Sp.wkeys S) n.a ∧ kok = true ∧ r4 ∈ Sp.wkeys S := fun hd => by
     rcases hd.inv with h | h | ⟨h, _⟩ | ⟨h, _⟩ | ⟨_, h1, h2, h3⟩
     ·exact absurd h hts
     ·rw [hn, xf] at h; cases h
     ·rw [hn] at h; exact absurd h x4
     ·rw [hn] at h; exact absurd h x5
     ·rw [hn] at h1 h2 h3; rw [hko] at h2 h3; exact ⟨h1, h2, h3⟩
    refine ⟨fun hc => ?_, fun hc => ?_⟩
    ·rw [Bool.and_eq_true, Bool.and_eq_true] at hc
     obtain ⟨⟨hkok, hkey⟩, _⟩ := hc
     have hkey := of_decide_eq_true hkey
     have hkn := Sp.keyOf_ok (L := L) (n := Sp.whoOf n) (by rw [hko]; exact hkok)
     rw [hko] at hkn
     have hk1 := (Sp.inP_iff.1 hkn.1).1
     intro H4 w18 hs18
     refine hcall n.a H4 w18 sl [] B (C13.hst h0 hs18) (Sp.rank_kid hts ha1 ha.2) (.inl sa) _ ?_
     intro r9 r10 w22 sl2 M2 B2 C22 hd22 hi22 _ w23 hs23
     have C23 := C22.hst h0 hs23
     refine J2 H4 w23 sl2 _ B2 r10 _ _ C23 (fun h hd => by have := hd22.2 (inv hd).1; rw [h] at this; cases this) (fun _ h => by simp only at hk1; omega) (fun h _ => ⟨Sp.rank_key hts ht1 hkey, .inr hkey, fun _ => .signed (by rw [hn]; exact hk7) (by rw [hn]; exact hd22.1 h) (by rw [hn, hko]; exact hkok) (by rw [hn, hko]; exact hkey), fun _ => .seen hkey, ?_⟩)
     intro M3 i hi hit
     obtain ⟨i1, rfl, hi1, hit1⟩ := hi22 h
     have hi1' : i1 < (l ++ (([] ++ M2) ++ M3)).length := by simp at hi1 ⊢; omega
     have e1 : Sp.tAt (l ++ (([] ++ M2) ++ M3)) (i1 : Int) = n.a := by
      rw [← List.append_assoc, Sp.tAt_app hi1]; exact hit1
     have e2 : Sp.tAt (l ++ (([] ++ M2) ++ M3)) (i : Int) = r4 := by rw [Sp.tAt_of hi]; exact hit
     clear hit
     generalize l ++ (([] ++ M2) ++ M3) = l' at *
     unfold Sp.fol; rw [if_neg hin', hn]
     have hkey2 := hkn.2.1
     simp only at hkey2
     simp [hk7, x4, x5, Sp.ahead_of hi, Sp.ahead_of hi1', e1, e2, hkey2, Sp.keyNode]
    ·intro H4 w18 hs18
     have hnk : (kok && decide (r4 ∈ Sp.wkeys S)) = false := by
      have : decide (n.a > 0) = true := by simp; omega
      rw [this] at hc; simpa using hc
     refine J2 H4 w18 sl [] B _ _ _ (C13.hst h0 hs18) (fun _ hd => ?_) (fun h => by rw [hnk] at h; cases h) (fun h => by rw [hnk] at h; cases h)
     obtain ⟨_, i2, i3⟩ := inv hd
     rw [i2, decide_eq_true i3] at hnk; cases hnk
  ·have htB : t ∈ B := by simpa using hb
   intro H2 w4 hs4
   have C4 := C2.hst h0 hs4
   have hnB : (!decide (t ∈ B)) = false := by simp [htB]
   rw [hnB]
   exact J1f 0 0 0 H2 w4 sl [] B C4 (hp0.bar t htB)
theorem c_ded_Proof (k p : Addr) (t : Int) (w0 : World) {L : Sp.Pool} {G : List Int} {S : List Sp.Way} {F FP : Nat → Prop} (hW : Sp.Wf L) (hk : Sp.KnowOk L G S) (h : KnowAt w0 k p G S F) (hP : PoolAt w0 p L FP) :
  Calls Try.prog 40 #[.pointer (some k), .int .i64 t] w0 (fun e w' => ∃ r : Sl, ∃ ok : Bool, e = .returned (.tuple #[r.v, .bool ok]) ∧ ∃ l : List Sp.Step, RetO w0 167 4 (l.map strow) r w' ∧ (ok = true ↔ Sp.Drv L (fun x => x ∈ Sp.wkeys S) t) ∧ (ok = false → l = []) ∧ (ok = true → l ≠ [] ∧ (∀ i (hi : i < l.length), Sp.fol L G (l.take i) l[i] = true) ∧ (l.map Sp.Step.t).Nodup ∧ Sp.tAt l ((l.length : Int) - 1) = t ∧ ∀ s ∈ l, Sp.Sub L t s.t ∨ s.t ∈ Sp.wkeys S)) := by
 suffices key : ∀ K : Sl → Bool → World → Prop, (∀ r ok w' l, RetO w0 167 4 (l.map strow) r w' → (ok = true ↔ Sp.Drv L (fun x => x ∈ Sp.wkeys S) t) → (ok = false → l = []) → (ok = true → l ≠ [] ∧ (∀ i (hi : i < l.length), Sp.fol L G (l.take i) l[i] = true) ∧ (l.map Sp.Step.t).Nodup ∧ Sp.tAt l ((l.length : Int) - 1) = t ∧ ∀ s ∈ l, Sp.Sub L t s.t ∨ s.t ∈ Sp.wkeys S) → K r ok w') → m_deduce_Know_Proof (some k) t w0 K from
  w_deduce_Know_Proof _ _ w0 _ (key _ (fun r ok w' l a b c d => ⟨l, a, b, c, d⟩))
 intro K hK
 unfold m_deduce_Know_Proof
 intro p1 w1 h1
 have B1 := Box.of_new h1
 refine ⟨_, B1.cell0, Br.f rfl ?_⟩
 intro p2 w2 h2 p3 w3 h3 p4 w4 h4
 have B4 := Box.of_new h4
 refine ⟨B4.canW0 (by simp), ?_⟩
 rintro _ rfl
 have X4 := Ext.setCell (w := w4) p4 (.map (some p3.block))
 have B4' := B4.set0 (v := .map (some p3.block))
 have s1 := h1.at_size; have s2 := h2.at_size; have s3 := h3.at_size; have s4 := h4.at_size
 have E1 : Pure w0 w1 := Ext.new h1
 have E2 : Pure w1 w2 := Ext.new h2
 have E3 : Pure w2 w3 := Ext.new h3
 have E4 : Pure w3 w4 := Ext.new h4
 have l1 := B1.lt
 have l2 := (Box.of_new h2).lt
 have l3 := (IMap.of_new (f := ikey) h3).lt
 have l4 := B4.lt
 have z4 := X4.size
 generalize hw5 : w4.setCell p4 (.map (some p3.block)) = w5 at *
 intro p5 w6 h6 p6 w7 h7
 have B7 := Box.of_new h7
 refine ⟨B7.canW0 (by simp), ?_⟩
 rintro _ rfl
 have X7 := Ext.setCell (w := w7) p6 (.map (some p5.block))
 have B7' := B7.set0 (v := .map (some p5.block))
 have s6 := h6.at_size; have s7 := h7.at_size
 have E6 : Pure w5 w6 := Ext.new h6
 have E7 : Pure w6 w7 := Ext.new h7
 have l6 := (IMap.of_new (f := tru) h6).lt
 have l7 := B7.lt
 have z7 := X7.size
 generalize hw8 : w7.setCell p6 (.map (some p5.block)) = w8 at *
 intro p7 w9 h9
 have B9 := Box.of_new h9
 refine ⟨B9.canW0 (by simp), ?_⟩
 rintro _ rfl
 have X9 := Ext.setCell (w := w9) p7 (.func (.func 98) #[] #[.pointer (some p4), .pointer (some p6), .pointer (some p1), .pointer (some p7), .pointer (some p2)])
 have B9' := B9.set0 (v := .func (.func 98) #[] #[.pointer (some p4), .pointer (some p6), .pointer (some p1), .pointer (some p7), .pointer (some p2)])
 have s9 := h9.at_size
 have E9 : Pure w8 w9 := Ext.new h9
 have l9 := B9.lt
 have z9 := X9.size
 have g1 := E1.size; have g2 := E2.size; have g3 := E3.size; have g4 := E4.size; have g6 := E6.size; have g7 := E7.size; have g9 := E9.size
 generalize hw10 : w9.setCell p7 (.func (.func 98) #[] #[.pointer (some p4), .pointer (some p6), .pointer (some p1), .pointer (some p7), .pointer (some p2)]) = w10 at *
 have hnil : ∀ b, ¬ Sl.nil.blk b := fun b hb => by obtain ⟨a, h, _⟩ := hb; cases h
 have T5 : Pure w0 w5 := (((E1.trans E2).trans E3).trans E4).trans' X4 (fun i hi e => by omega)
 have T8 : Pure w5 w8 := (E6.trans E7).trans' X7 (fun i hi e => by omega)
 have T10 : Pure w8 w10 := E9.trans' X9 (fun i hi e => by omega)
 have T : Pure w0 w10 := (T5.trans T8).trans T10
 have T2 : Pure w2 w5 := (E3.trans E4).trans' X4 (fun i hi e => by omega)
 have T1 : Pure w1 w5 := E2.trans T2
 have T3 : Pure w3 w5 := E4.trans' X4 (fun i hi e => by omega)
 have T6 : Pure w6 w8 := E7.trans' X7 (fun i hi e => by omega)
 have T5' : Pure w5 w10 := T8.trans T10
 have h0 : SaysAt w10 k p p4 p6 p1 p7 p2 p3.block p5.block L G S F FP Sl.nil [] [] := by
  refine ⟨⟨(B4'.pure T5').cell0, (B7'.pure T10).cell0, (B1.pure (T1.trans T5')).cell0, B9'.cell0, (Box.of_new h2).pure (T2.trans T5'), (IMap.of_new h3).pure (T3.trans T5'), (IMap.of_new h6).pure (T6.trans T10), Rws.nil _ _ _, ?_, by omega, by omega, by omega, hnil _, hnil _, hnil _⟩, h.pure T, hP.pure T, ?_, ?_⟩
  ·rintro b (rfl | rfl | rfl | hb)
   ·omega
   ·omega
   ·omega
   ·exact (hnil b hb).elim
  ·rintro b hb (rfl | rfl | rfl | hx)
   ·have := h.lt hb; omega
   ·have := h.lt hb; omega
   ·have := h.lt hb; omega
   ·exact hnil b hx
  ·rintro b hb (rfl | rfl | rfl | hx)
   ·have := hP.lt hb; omega
   ·have := hP.lt hb; omega
   ·have := hP.lt hb; omega
   ·exact hnil b hx
 refine ⟨_, h0.prf.a4, 98, #[], _, rfl, Try.call98, ?_⟩
 refine (c_says k p p4 p6 p1 p7 p2 p3.block p5.block hW hk _ t w10 Sl.nil [] [] (Nat.lt_succ_self _) h0 (Sp.PrfOk.nil _ _ _)).mono ?_
 rintro _ w11 ⟨r1, ok, rfl, sl', M, B', hret⟩
 refine ⟨r1, ok, rfl, fun hc => ?_, fun hc => ?_⟩
 ·have hf : ok = false := by simpa using hc
  subst hf
  refine hK Sl.nil false w11 [] ⟨Rws.nil _ _ _, fun b hb => (hnil b hb).elim, T.trans' hret.ext (fun i hi hx => ?_)⟩ hret.drv (fun _ => rfl) (fun h => by cases h)
  rcases hx with rfl | rfl | rfl | hx
  ·omega
  ·omega
  ·omega
  ·exact (hnil _ hx).elim
 ·have ht : ok = true := by simpa using hc
  subst ht
  have hst := hret.st
  have hpf := hret.prf
  have hidx := hret.idx rfl
  simp only [List.nil_append] at hst hpf hidx
  obtain ⟨i, _, hi, hit⟩ := hidx
  refine ⟨sl', hst.prf.a5.cell0, ?_⟩
  refine hK sl' true w11 M ⟨hst.prf.ls, fun b hb => ?_, T.trans' hret.ext (fun i hi hx => ?_)⟩ hret.drv (fun h => by cases h) (fun _ => ⟨?_, hpf.fol, hpf.nd, ?_, fun s hs => (hret.new s hs).2⟩)
  ·rcases hret.own b hb with h | h
   ·exact (hnil b h).elim
   ·have := T.size; omega
  ·rcases hx with rfl | rfl | rfl | hx
   ·omega
   ·omega
   ·omega
   ·exact (hnil _ hx).elim
  ·intro e; subst e; simp at hi
  ·have := hret.last rfl
   simp only [List.nil_append] at this
   rcases this with rfl | h
   ·simp at hi
   ·exact h
theorem c_ded_Derives (k p : Addr) (t : Int) (w0 : World) {L : Sp.Pool} {G : List Int} {S : List Sp.Way} {F FP : Nat → Prop} (hW : Sp.Wf L) (hk : Sp.KnowOk L G S) (h : KnowAt w0 k p G S F) (hP : PoolAt w0 p L FP) :
  Calls Try.prog 46 #[.pointer (some k), .int .i64 t] w0 (fun e w' => ∃ r : Bool, e = .returned (.bool r) ∧ ((r = true ↔ Sp.Drv L (fun x => x ∈ Sp.wkeys S) t) ∧ Pure w0 w')) := by
 refine w_deduce_Know_Derives _ _ w0 (fun r w' => (r = true ↔ Sp.Drv L (fun x => x ∈ Sp.wkeys S) t) ∧ Pure w0 w') ?_
 unfold m_deduce_Know_Derives
 refine (c_ded_Proof k p t w0 hW hk h hP).mono ?_
 rintro _ w1 ⟨r, ok, rfl, l, hr, hd, _, _⟩
 exact ⟨r, ok, rfl, hd, hr.pure⟩
end Go.Proofs
end
section
open Go Go.SE
namespace Go.Proofs
attribute [local irreducible] Calls
theorem named_see (k : Int) {r : Int} (h : r = 1 ∨ r = 2 ∨ r = 3) : s_deduce_named k r = (true, false) := by
 rcases h with rfl | rfl | rfl <;> simp [s_deduce_named]
theorem named_make (k : Int) : s_deduce_named k 5 = (true, k != 5) := by simp [s_deduce_named]
theorem named_none (k : Int) {r : Int} (h : ¬ (r = 1 ∨ r = 2 ∨ r = 3)) (h5 : r ≠ 5) : s_deduce_named k r = (false, false) := by
 have h1 : r ≠ 1 := fun e => h (.inl e)
 have h2 : r ≠ 2 := fun e => h (.inr (.inl e))
 have h3 : r ≠ 3 := fun e => h (.inr (.inr e))
 have e1 : (r == 1) = false := by simpa using h1
 have e2 : (r == 2) = false := by simpa using h2
 have e3 : (r == 3) = false := by simpa using h3
 have e5 : (r == 5) = false := by simpa using h5
 simp [s_deduce_named, e1, e2, e3, e5]
theorem st_nth {S : Nat → Prop} {w : World} {s : Sl} {l : List Sp.Step} (h : Lst S w 4 s (l.map strow)) {v : Int} (h0 : 0 ≤ v) (hv : v.toNat < l.length) : ∃ a, At s v 4 a ∧ S a.block ∧ Row w a (strow l[v.toNat]) := by
 obtain ⟨a, h1, h2, h3⟩ := h.at_ v.toNat (by simpa using hv)
 refine ⟨a, ?_, h2, by simpa using h3⟩
 obtain ⟨q1, q2, b, q3, q4⟩ := h1
 rw [Int.toNat_natCast] at q4
 exact ⟨h0, by rw [h.len]; simp; omega, b, q3, q4⟩
theorem ahead_iff {n : Nat} {v : Int} : Sp.ahead n v = true ↔ 0 ≤ v ∧ v < n := by simp [Sp.ahead]
theorem tAt_take {l : List Sp.Step} {i : Nat} {v : Int} (h0 : 0 ≤ v) (hv : v < i) (hi : i ≤ l.length) : Sp.tAt (l.take i) v = (l[v.toNat]'(by omega)).t := by
 have : v.toNat < i := by omega
 simp [Sp.tAt, List.getElem?_take, this, show v.toNat < l.length by omega]
theorem c_ded_follows {Sg Ss : Nat → Prop} (p : Addr) (sg sl : Sl) (G : List Int) (l : List Sp.Step) (i : Nat) (w0 : World) {L : Sp.Pool} {FP : Nat → Prop} (hi : i < l.length) (hP : PoolAt w0 p L FP) (hok : Sp.Ok L) (hg : Lst Sg w0 1 sg (tmr G)) (hs : Lst Ss w0 4 sl (l.map strow)) (hG : G.length ≤ 1000000) :
  Calls Try.prog 100 #[.pointer (some p), sg.v, sl.v, .int .i64 i] w0 (fun e w' => ∃ r : Bool, e = .returned (.bool r) ∧ (r = Sp.fol L G (l.take i) l[i] ∧ Pure w0 w')) := by
 suffices key : ∀ K : Bool → World → Prop, (∀ w', Pure w0 w' → K (Sp.fol L G (l.take i) l[i]) w') → m_deduce_follows (some p) sg sl i w0 K from
  w_deduce_follows _ _ _ _ w0 _ (key _ (fun _ h => ⟨rfl, h⟩))
 intro K hK
 unfold m_deduce_follows
 obtain ⟨a1, at1, _, row1⟩ := st_nth hs (v := (i : Int)) (by omega) (by simpa using hi)
 have hti : ((i : Int).toNat) = i := by simp
 simp only [hti] at row1
 generalize hsi : l[i] = s at *
 obtain ⟨ru, va, vb, vt⟩ := s
 refine ⟨a1, at1, ru, va, vb, vt, row1, ?_⟩
 intro H1 w2 hs2
 have E2 := hs2.first
 refine (c_Node p vt w2 (hP.pure E2) hok).mono ?_
 rintro _ w3 ⟨nk, nf, nt, nu, nx, na, nb, ok, rfl, ⟨hn, rfl⟩, E3⟩
 have E03 := E2.trans E3
 refine ⟨_, _, _, _, _, _, _, _, rfl, E3.keptP, fun hc => ?_, fun hc => ?_⟩
 ·intro H2 w5 hs5
  have hin : Sp.inP L vt = false := by simpa using hc
  have := hK w5 (E03.hst hs5)
  unfold Sp.fol at this; rw [if_pos hin] at this; exact this
 have hin : ¬ Sp.inP L vt = false := by simpa using hc
 have hk1 : (Sp.nodeOf L vt).kind = nk := by rw [← hn]
 have hfr : (Sp.nodeOf L vt).frm = nf := by rw [← hn]
 have hto : (Sp.nodeOf L vt).to = nt := by rw [← hn]
 have ha : (Sp.nodeOf L vt).a = na := by rw [← hn]
 have hb : (Sp.nodeOf L vt).b = nb := by rw [← hn]
 have hlen : (l.take i).length = i := by rw [List.length_take]; omega
 have hfol : Sp.fol L G (l.take i) ⟨ru, va, vb, vt⟩ = (if ru = 0 then va == 0 && vb == 0 && decide (vt ∈ G)
   else if ru = 1 ∨ ru = 2 ∨ ru = 3 then Sp.ahead i va && vb == 0 && Sp.arisesB L ru (Sp.tAt (l.take i) va) vt
   else if ru = 4 then va == 0 && vb == 0 && Sp.freeK nk
   else if ru = 5 then
    if nk = 4 then Sp.ahead i va && Sp.ahead i vb && Sp.tAt (l.take i) va == na && Sp.tAt (l.take i) vb == nb
    else if nk = 5 then Sp.ahead i va && vb == 0 && Sp.tAt (l.take i) va == na
    else if Sp.showsK nk = true then Sp.ahead i va && Sp.ahead i vb && Sp.tAt (l.take i) va == na && (Sp.nodeOf L (Sp.tAt (l.take i) vb)).kind == 6 && (Sp.nodeOf L (Sp.tAt (l.take i) vb)).frm == Sp.whoOf (Sp.nodeOf L vt)
    else false
   else false) := by
  unfold Sp.fol; simp only; rw [if_neg hin, hlen, hk1, ha, hb]
 rw [hfol] at hK
 clear hfol
 have hfree : ((((nk : Int) == 1) || ((nk : Int) == 2)) || ((nk : Int) == 3)) = Sp.freeK nk := rfl
 have getS : ∀ (v : Int), 0 ≤ v → v < i → ∃ a, At sl v 4 a ∧ ∃ x, Sp.tAt (l.take i) v = x ∧ ∀ w, Pure w0 w → w.cell? (a.add 3) = some (.int .i64 x) := by
  intro v h0 hv
  obtain ⟨a, hat, _, hrow⟩ := st_nth hs h0 (by omega)
  refine ⟨a, hat, _, rfl, fun w E => ?_⟩
  have := (E.row hrow (fun h => h)) 3 (by simp [strow])
  rw [this, tAt_take h0 hv (by omega)]; rfl
 rintro y1 rfl
 by_cases hr : ru = 1 ∨ ru = 2 ∨ ru = 3
 ·-- it is seen
  have hr0 : ru ≠ 0 := by omega
  rw [if_neg hr0, if_pos hr] at hK
  rw [named_see nk hr]
  refine ⟨fun hy => ?_, fun hy => Br.t rfl ?_⟩
  ·intro H17 w21 hs21
   have hz : (Sp.ahead i va && vb == 0) = false := by
    simp at hy
    rcases hy with h | h
    ·simp [Sp.ahead]; omega
    ·simp [h]
   have := hK w21 (E03.hst hs21)
   rw [hz] at this; exact this
  ·have hab : (0 ≤ va ∧ va < i) ∧ vb = 0 := by simp at hy; omega
   obtain ⟨a7, at7, x, hx, c7⟩ := getS va hab.1.1 hab.1.2
   refine ⟨a7, at7, ?_⟩
   intro H33 w37 hs37
   have E37 := E03.hst hs37
   refine ⟨x, c7 w37 E37, ?_⟩
   refine (c_Node p x w37 (hP.pure E37) hok).mono ?_
   rintro _ w63 ⟨xk, xf, xt, xu, xx, xa, xb, _, rfl, ⟨hxn, _⟩, E63⟩
   refine ⟨_, _, _, _, _, _, _, _, rfl, E63.keptP, ?_⟩
   intro w64 hs64
   have E64 := (E37.trans E63).hst hs64
   unfold m_deduce_follows_j1
   rw [named_see nk hr]
   refine Br.f rfl ?_
   have hxk : (Sp.nodeOf L x).kind = xk := by rw [← hxn]
   have hxa : (Sp.nodeOf L x).a = xa := by rw [← hxn]
   have hxb : (Sp.nodeOf L x).b = xb := by rw [← hxn]
   have hahd : Sp.ahead i va = true := ahead_iff.2 hab.1
   rw [hahd, hab.2, hx] at hK
   unfold m_deduce_follows_j2
   unfold Sp.arisesB at hK
   simp only [hxk, hxa, hxb] at hK
   refine Br.f (by simpa using hr0) ⟨fun h => ?_, fun h => ⟨fun h2 => ?_, fun h2 => ⟨fun h3 => ?_, fun h3 => ?_⟩⟩⟩
   ·intro H35 w40 hs40
    have h : ru = 1 := by simpa using h
    subst h
    simpa using hK w40 (E64.hst hs40)
   ·intro H35 w40 hs40
    have h2 : ru = 2 := by simpa using h2
    subst h2
    simpa using hK w40 (E64.hst hs40)
   ·intro H35 w40 hs40
    have h3 : ru = 3 := by simpa using h3
    subst h3
    simpa [Sp.showsK] using hK w40 (E64.hst hs40)
   ·simp at h h2 h3; omega
 rw [if_neg hr] at hK
 by_cases h5 : ru = 5
 ·-- it is made
  subst h5
  rw [if_neg (by decide), if_neg (by decide), if_pos rfl] at hK
  rw [named_make nk]
  have hbad : ∀ w, Pure w0 w → (Sp.ahead i va = false ∨ (nk ≠ 5 ∧ Sp.ahead i vb = false) ∨ (nk = 5 ∧ vb ≠ 0)) → K false w := by
   intro w E hh
   have hKw := hK w E
   by_cases k4 : nk = 4
   ·rw [if_pos k4] at hKw
    rcases hh with h | ⟨_, h⟩ | ⟨h, _⟩
    ·simpa [h] using hKw
    ·simpa [h] using hKw
    ·omega
   ·rw [if_neg k4] at hKw
    by_cases k5 : nk = 5
    ·rw [if_pos k5] at hKw
     rcases hh with h | ⟨h, _⟩ | ⟨_, h⟩
     ·simpa [h] using hKw
     ·exact absurd k5 h
     ·have : (vb == 0) = false := by simpa using h
      simpa [this] using hKw
    ·rw [if_neg k5] at hKw
     split at hKw
     ·rcases hh with h | ⟨_, h⟩ | ⟨h, _⟩
      ·simpa [h] using hKw
      ·simpa [h] using hKw
      ·exact absurd h k5
     ·exact hKw
  refine ⟨fun hy => ?_, fun hy => Br.t rfl ?_⟩
  ·intro H17 w21 hs21
   refine hbad w21 (E03.hst hs21) ?_
   simp only [Bool.true_and, Bool.not_true, Bool.false_and, Bool.or_false, Bool.or_eq_true, Bool.and_eq_true, decide_eq_true_eq, bne_iff_ne, ne_eq, Bool.not_eq_true', bne_eq_false_iff_eq] at hy
   rcases hy with (h | ⟨h1, h2⟩) | ⟨h1, h2⟩
   ·left; simp [Sp.ahead]; omega
   ·right; left; exact ⟨h1, by simp [Sp.ahead]; omega⟩
   ·right; right; exact ⟨h1, h2⟩
  ·simp only [Bool.true_and, Bool.not_true, Bool.false_and, Bool.or_false, Bool.or_eq_false_iff, Bool.and_eq_false_imp, decide_eq_false_iff_not, bne_iff_ne, ne_eq, bne_eq_false_iff_eq, Bool.not_eq_true'] at hy
   obtain ⟨⟨⟨q1, q2⟩, q3⟩, q4⟩ := hy
   have hA : 0 ≤ va ∧ va < i := by omega
   have hahd : Sp.ahead i va = true := ahead_iff.2 hA
   rw [hahd] at hK
   simp only [Bool.true_and] at hK
   obtain ⟨a7, at7, x, hx, c7⟩ := getS va hA.1 hA.2
   rw [hx] at hK
   refine ⟨a7, at7, ?_⟩
   intro H33 w37 hs37
   have E37 := E03.hst hs37
   refine ⟨x, c7 w37 E37, ?_⟩
   refine (c_Node p x w37 (hP.pure E37) hok).mono ?_
   rintro _ w63 ⟨xk, xf, xt, xu, xx, xa, xb, _, rfl, ⟨hxn, _⟩, E63⟩
   refine ⟨_, _, _, _, _, _, _, _, rfl, E63.keptP, ?_⟩
   intro w64 hs64
   have E64 := (E37.trans E63).hst hs64
   unfold m_deduce_follows_j1
   rw [named_make nk]
   have J2 : ∀ (H : Nat → Prop) (w : World) (yk yf yt yu : Int) (yx : ByteArray) (ya yb : Int), Pure w0 w → Hst w0 H w H w → (nk ≠ 5 → 0 ≤ vb ∧ vb < i ∧ (⟨yk, yf, yt, yu, yx, ya, yb⟩ : Sp.Node) = Sp.nodeOf L (Sp.tAt (l.take i) vb)) → (nk = 5 → vb = 0) →
     m_deduce_follows_j2 sg sl 5 va vb vt nk nf nt na nb xk xa xb yk yf yt yu yx ya yb w0 H w K := by
    intro H w yk yf yt yu yx ya yb E hsw hy1 hy2
    unfold m_deduce_follows_j2
    refine Br.f rfl (Br.f rfl (Br.f rfl (Br.f rfl (Br.f rfl (Br.t rfl ⟨fun k4 => ?_, fun k4 => ⟨fun k5 => ?_, fun k5 => ?_⟩⟩)))))
    ·have k4 : nk = 4 := by simpa using k4
     obtain ⟨b0, bi, _⟩ := hy1 (by omega)
     obtain ⟨a4, at4, z, hz, c4⟩ := getS vb b0 bi
     rw [if_pos k4, ahead_iff.2 ⟨b0, bi⟩, hz] at hK
     refine ⟨a7, at7, ?_⟩
     intro w58 hs58
     have E58 := E.hst hs58
     refine ⟨x, c7 w58 E58, fun h => ⟨a4, at4, z, c4 w58 E58, ?_⟩, fun h => ?_⟩
     ·have h : (x == na) = true := h
      simpa [h] using hK w58 E58
     ·have h : (x == na) = false := h
      simpa [h] using hK w58 E58
    ·have k4 : ¬ nk = 4 := by simpa using k4
     have k5 : nk = 5 := by simpa using k5
     rw [if_neg k4, if_pos k5, hy2 k5] at hK
     refine ⟨a7, at7, ?_⟩
     intro w59 hs59
     have E59 := E.hst hs59
     refine ⟨x, c7 w59 E59, ?_⟩
     simpa using hK w59 E59
    ·have k4 : ¬ nk = 4 := by simpa using k4
     have k5 : ¬ nk = 5 := by simpa using k5
     obtain ⟨b0, bi, hyn⟩ := hy1 k5
     rw [if_neg k4, if_neg k5, ahead_iff.2 ⟨b0, bi⟩, ← hyn] at hK
     have J3 : ∀ (who : Int) (H : Nat → Prop) (w : World), Pure w0 w → Hst w0 H w H w → Sp.showsK nk = true → who = Sp.whoOf (Sp.nodeOf L vt) → m_deduce_follows_j3 sl va na yk yf who w0 H w K := by
      intro who H w E hsw h7 hw
      rw [if_pos h7, ← hw] at hK
      unfold m_deduce_follows_j3
      refine ⟨a7, at7, ?_⟩
      intro w57 hs57
      have E57 := E.hst hs57
      refine ⟨x, c7 w57 E57, fun h => ⟨fun h6 => ?_, fun h6 => ?_⟩, fun h => ?_⟩
      ·have h : (x == na) = true := h
       have h6 : (yk == 6) = true := h6
       simpa [h, h6] using hK w57 E57
      ·have h : (x == na) = true := h
       have h6 : (yk == 6) = false := h6
       simpa [h, h6] using hK w57 E57
      ·have h : (x == na) = false := h
       simpa [h] using hK w57 E57
     refine ⟨fun k9 => ?_, fun k9 => ⟨fun k7 => ?_, fun k7 => ?_⟩⟩
     ·have k9 : nk = 9 := by simpa using k9
      exact J3 nt H w E hsw (by rw [k9]; rfl) (by unfold Sp.whoOf; rw [hk1, if_pos k9, hto])
     ·have k9 : ¬ nk = 9 := by simpa using k9
      have k7 : Sp.showsK nk = true := by
       unfold Sp.showsK; cases h7 : (nk == 7) <;> cases h8 : (nk == 8) <;> simp_all
      intro H52 w60 hs60
      exact J3 nf H52 w60 (E.hst hs60) hs60.here k7 (by unfold Sp.whoOf; rw [hk1, if_neg k9, hfr])
     ·have k9 : ¬ nk = 9 := by simpa using k9
      have k7 : Sp.showsK nk = false := by
       unfold Sp.showsK; cases h7 : (nk == 7) <;> cases h8 : (nk == 8) <;> simp_all
      intro H52 w60 hs60
      rw [if_neg (by simp [k7])] at hK
      exact hK w60 (E.hst hs60)
   have hs64' := hs64.here
   refine ⟨fun h => ?_, fun h => ?_⟩
   ·have k5 : nk ≠ 5 := by simpa using h
    have hB : 0 ≤ vb ∧ vb < i := by have := q3 k5; omega
    obtain ⟨a6, at6, z, hz, c6⟩ := getS vb hB.1 hB.2
    refine ⟨a6, at6, z, c6 w64 E64, ?_⟩
    refine (c_Node p z w64 (hP.pure E64) hok).mono ?_
    rintro _ w61 ⟨yk, yf, yt, yu, yx, ya, yb, _, rfl, ⟨hyn, _⟩, E61⟩
    refine ⟨_, _, _, _, _, _, _, _, rfl, E61.keptP, ?_⟩
    intro w62 hs62
    exact J2 _ w62 _ _ _ _ _ _ _ ((E64.trans E61).hst hs62) hs62.here (fun _ => ⟨hB.1, hB.2, by rw [hz]; exact hyn⟩) (fun h => absurd h k5)
   ·have k5 : nk = 5 := by simpa using h
    exact J2 _ w64 _ _ _ _ _ _ _ E64 hs64' (fun h => absurd k5 h) (fun _ => q4 k5)
 rw [if_neg h5] at hK
 rw [named_none nk hr h5]
 refine ⟨fun hy => ?_, fun hy => Br.f rfl ?_⟩
 ·intro H17 w21 hs21
  have hz : (va == 0 && vb == 0) = false := by
   cases h1 : (va == 0) <;> cases h2 : (vb == 0) <;> simp_all
  have := hK w21 (E03.hst hs21)
  rw [hz] at this
  simpa using this
 ·have hz : va = 0 ∧ vb = 0 := by simp at hy; omega
  rw [hz.1, hz.2] at hK
  intro H33 w37 hs37
  have E37 := E03.hst hs37
  unfold m_deduce_follows_j1
  rw [named_none nk hr h5]
  refine Br.f rfl ?_
  unfold m_deduce_follows_j2
  refine ⟨fun h0 => ?_, fun h0 => Br.f (by simpa using fun e => hr (.inl e)) (Br.f (by simpa using fun e => hr (.inr (.inl e))) (Br.f (by simpa using fun e => hr (.inr (.inr e))) ⟨fun h4 => ?_, fun h4 => Br.f (by simpa using h5) ?_⟩))⟩
  ·have h0 : ru = 0 := by simpa using h0
   rw [if_pos h0] at hK
   refine (c_slContains sg G vt w37 (hg.pure E37) hG).mono ?_
   rintro _ w38 ⟨r2, rfl, rfl, rfl⟩
   exact ⟨_, rfl, Kept.refl _, by simpa using hK w38 E37⟩
  ·have h0 : ¬ ru = 0 := by simpa using h0
   have h4 : ru = 4 := by simpa using h4
   rw [if_neg h0, if_pos h4] at hK
   intro H49 w54 hs54
   simpa [Sp.freeK] using hK w54 (E37.hst hs54)
  ·have h0 : ¬ ru = 0 := by simpa using h0
   have h4 : ¬ ru = 4 := by simpa using h4
   rw [if_neg h0, if_neg h4] at hK
   exact hK w37 E37
theorem bad_step {L : Sp.Pool} {G : List Int} {l : List Sp.Step} {j n : Nat} (hj : j < l.length) : Sp.badAt L G l (n + 1) j = if Sp.fol L G (l.take j) l[j] = true then Sp.badAt L G l n (j + 1) else some j := by
 rw [Sp.badAt, List.getElem?_eq_getElem hj]
theorem bad_end {L : Sp.Pool} {G : List Int} {l : List Sp.Step} {j n : Nat} (hj : l.length ≤ j) : Sp.badAt L G l n j = none := by
 cases n with
 | zero => rfl
 | succ n => rw [Sp.badAt, List.getElem?_eq_none hj]
theorem c_ded_Check {Sg Ss : Nat → Prop} (p : Addr) (sg sl : Sl) (G : List Int) (l : List Sp.Step) (goal : Int) (w0 : World) {L : Sp.Pool} {FP : Nat → Prop} (hP : PoolAt w0 p L FP) (hok : Sp.Ok L) (hg : Lst Sg w0 1 sg (tmr G)) (hs : Lst Ss w0 4 sl (l.map strow)) (hG : G.length ≤ 1000000) (hl : l.length ≤ 1000000) :
  Calls Try.prog 41 #[.pointer (some p), sg.v, sl.v, .int .i64 goal] w0 (fun e w' => ∃ r1 : Int, ∃ r2 : Int, e = .returned (.tuple #[.int .i64 r1, .int .i64 r2]) ∧ ((r1, r2) = Sp.check8 L G l goal ∧ Pure w0 w')) := by
 suffices key : ∀ K : Int → Int → World → Prop, (∀ r1 r2 w', (r1, r2) = Sp.check8 L G l goal → Pure w0 w' → K r1 r2 w') → m_deduce_Check (some p) sg sl goal w0 K from
  w_deduce_Check _ _ _ _ w0 _ (key _ (fun r1 r2 w' h E => ⟨h, E⟩))
 intro K hK
 unfold m_deduce_Check
 have hsl : sl.len = l.length := by rw [hs.len]; simp
 refine Br.f rfl ⟨fun i w => ∃ j : Nat, i = j ∧ j ≤ l.length ∧ Pure w0 w ∧ Sp.badAt L G l l.length 0 = Sp.badAt L G l (l.length - j) j, fun i _ => ((l.length : Int) - i).toNat, ⟨0, rfl, Nat.zero_le _, Ext.refl _, by simp⟩, ?_⟩
 rintro _ wl ⟨j, rfl, hj, E, hb⟩
 unfold m_deduce_Check_l1
 refine ⟨fun h => ?_, fun h => ?_⟩
 ·have hlt := lt_of_dec hsl h
  refine (c_ded_follows p sg sl G l j wl hlt (hP.pure E) hok (hg.pure E) (hs.pure E) hG).mono ?_
  rintro _ w1 ⟨r, rfl, rfl, E1⟩
  have hn : l.length - j = (l.length - (j + 1)) + 1 := by omega
  rw [hn, bad_step hlt] at hb
  refine ⟨_, rfl, fun hc => ?_, fun hc => ?_⟩
  ·have hf : Sp.fol L G (l.take j) l[j] = false := by simpa using hc
   rw [if_neg (by simp [hf])] at hb
   exact hK _ _ _ (by unfold Sp.check8; rw [hb]) (E.trans E1)
  ·have hf : Sp.fol L G (l.take j) l[j] = true := by simpa using hc
   rw [if_pos hf] at hb
   rw [wrap_succ hlt (by omega)]
   exact ⟨⟨j + 1, rfl, hlt, E.trans E1, hb⟩, lt_dec hlt⟩
 ·have hge := eq_of_dec hsl hj h
  subst hge
  rw [bad_end (Nat.le_refl _)] at hb
  have hch : Sp.check8 L G l goal = if l.length = 0 ∨ Sp.tAt l ((l.length : Int) - 1) ≠ goal then (81, (l.length : Int)) else (0, 0) := by unfold Sp.check8; rw [hb]
  rw [hsl]
  refine ⟨fun h0 => ?_, fun h0 => ?_⟩
  ·have h0 : l.length = 0 := by simpa using h0
   exact hK _ _ _ (by rw [hch, if_pos (.inl h0)]) E
  ·have h0 : l.length ≠ 0 := by simpa using h0
   rw [IntWalk.i64_in _ (by omega)]
   obtain ⟨a, hat, _, hrow⟩ := st_nth hs (v := (l.length : Int) - 1) (by omega) (by omega)
   have e : ((l.length : Int) - 1) = ((l.length - 1 : Nat) : Int) := by omega
   have ht : Sp.tAt l ((l.length : Int) - 1) = (l[((l.length : Int) - 1).toNat]'(by omega)).t := by
    simp only [e, Int.toNat_natCast]
    exact Sp.tAt_of (by omega)
   refine ⟨a, hat, _, ((E.row hrow (fun h => h)) 3 (by simp [strow])).trans rfl, fun h => ?_, fun h => ?_⟩
   ·have h : Sp.tAt l ((l.length : Int) - 1) ≠ goal := by rw [ht]; simpa using h
    exact hK _ _ _ (by rw [hch, if_pos (.inr h)]) E
   ·have h : Sp.tAt l ((l.length : Int) - 1) = goal := by rw [ht]; simpa using h
    exact hK _ _ _ (by rw [hch, if_neg (by simp [h0, h])]) E
end Go.Proofs
end
section
open Go Go.SE
namespace Go.Proofs
set_option maxRecDepth 100000
set_option maxHeartbeats 4000000
attribute [local irreducible] wpL wpX opE wpE Calls
def m_ref05_Pool_In (p1 : Option Addr) (t1 : Int) (w0 : World) (K : Bool → World → Prop) : Prop :=
 Br (decide (t1 ≥ 1))
  (∃ a1 : Addr, p1 = some a1 ∧
  ∃ v1 : Sl, w0.cell? a1 = some v1.v ∧
  K (decide (t1 ≤ (v1.len : Int))) w0)
  (K false w0)
theorem w_ref05_Pool_In (p1 : Option Addr) (t1 : Int) (w0 : World) (K : Bool → World → Prop) (h : m_ref05_Pool_In p1 t1 w0 K) :
  Calls Try.prog 94 #[(vp p1), (vi t1)] w0 (fun e w' => ∃ r1 : Bool, e = .returned (vb r1) ∧ K r1 w') := by
 unfold m_ref05_Pool_In at h
 refine calls_of_wpE (args := [(vp p1), (vi t1)]) Try.func94 rfl Try.ntmps94 (Nat.le_of_ble_eq_true rfl) (wpE_seq (rg (q0 (vb false) (wpL_nil (th_n (wpE_seq (rg (q0 (vi t1) (q0 (vb (decide (t1 ≥ 1))) (q0 (vb (decide (t1 ≥ 1))) ?_))))))))))
 rcases Bool.eq_false_or_eq_true (decide (t1 ≥ 1)) with hg1 | hg1
 ·replace h := h.1 hg1
  refine q1 (vi t1) (want1 rfl (yD 7 hg1)) (q1 (vp p1) (want1 rfl (yD 7 hg1)) ?_)
  obtain ⟨a1, hp1, h⟩ := h
  refine stp (v := (vp (some a1))) (want1 rfl (yD 7 hg1)) (x_nilCheck (p := p1) (by kernel_rfl) hp1) (q1 (vp (some a1)) (want1 rfl (yD 7 hg1)) ?_)
  obtain ⟨v1, hv1, h⟩ := h
  refine stp (v := v1.v) (want1 rfl (yD 7 hg1)) (xl (Try.isAgg72 _) hv1) (q1 (vi (v1.len : Int)) (want1 rfl (yD 7 hg1)) (q1 (vb (decide (t1 ≤ (v1.len : Int)))) (want1 rfl (yD 7 hg1)) (q2 (vb (decide (t1 ≤ (v1.len : Int)))) (xT hg1) (q0 (vb (decide (t1 ≤ (v1.len : Int)))) (wpL_nil (th_n (wpE_ret (res1 (.inl rfl) Try.results94 (v := (vb (decide (t1 ≤ (v1.len : Int))))) (by kernel_rfl) ?_))))))))
  exact ⟨(decide (t1 ≤ (v1.len : Int))), rfl, h⟩
 ·replace h := h.2 hg1
  refine sk (yD 7 hg1) (sk (yD 7 hg1) (sk (yD 7 hg1) (sk (yD 7 hg1) (sk (yD 7 hg1) (sk (yD 7 hg1) (sk (yD 7 hg1) (q2 (vb false) (xF hg1) (q0 (vb false) (wpL_nil (th_n (wpE_ret ?_)))))))))))
  refine res1 (.inl rfl) Try.results94 (v := (vb false)) (by kernel_rfl) ?_
  exact ⟨false, rfl, h⟩
def m_ref05_Pool_Node (p1 : Option Addr) (t1 : Int) (w0 : World) (K : Int → Int → Int → Int → ByteArray → Int → Int → Bool → World → Prop) : Prop :=
 ∀ (H1 : Nat → Prop) (w1 : World), Hst w0 None w0 H1 w1 →
 Calls Try.prog 94 #[(vp p1), (vi t1)] w1 (fun e w2 => ∃ r1 : Bool, e = .returned (vb r1) ∧ 
  Kept H1 w1 w2 ∧
  Br (!r1)
   (∀ (w3 : World), Hst w0 H1 w2 H1 w3 →
   K 0 0 0 0 ⟨#[]⟩ 0 0 false w3)
   (∃ a1 : Addr, p1 = some a1 ∧
   ∃ v1 : Sl, w2.cell? a1 = some v1.v ∧
   ∃ a2 : Addr, At v1 (IntKind.i64.wrap (t1 - 1)) 7 a2 ∧
   ∃ aN aO : Int, ∃ aP aQ : Int, ∃ aR : ByteArray, ∃ bF bG : Int, Row w2 a2 [(vi aN), (vi aO), (vi aP), (vu aQ), (vs aR), (vi bF), (vi bG)] ∧
   ∀ (w4 : World), Hst w0 H1 w2 H1 w4 →
   K aN aO aP aQ aR bF bG true w4))
theorem w_ref05_Pool_Node (p1 : Option Addr) (t1 : Int) (w0 : World) (K : Int → Int → Int → Int → ByteArray → Int → Int → Bool → World → Prop) (h : m_ref05_Pool_Node p1 t1 w0 K) :
  Calls Try.prog 47 #[(vp p1), (vi t1)] w0 (fun e w' => ∃ bN bO : Int, ∃ bP bQ : Int, ∃ bR : ByteArray, ∃ bS bT : Int, ∃ r2 : Bool, e = .returned (.tuple #[(.agg #[(vi bN), (vi bO), (vi bP), (vu bQ), (vs bR), (vi bS), (vi bT)]), (vb r2)]) ∧ K bN bO bP bQ bR bS bT r2 w') := by
 unfold m_ref05_Pool_Node at h
 refine calls_of_wpE (args := [(vp p1), (vi t1)]) Try.func47 rfl Try.ntmps47 (Nat.le_of_ble_eq_true rfl) ?_
 have hs := Hst.start w0
 have hb := HB.nil None w0
 refine wpE_seq (rg (sn (O := (.cells #[(vi 0), (vi 0), (vi 0), (vu 0), (vs ⟨#[]⟩), (vi 0), (vi 0)] 93)) (x_alloc (Try.zeroValue93 _) rfl) ?_))
 intro p2 w1 hn1
 obtain ⟨H1, hs, hb⟩ := hs.alloc hb hn1
 refine q0 (vb false) (wpL_nil (th_n (wpE_seq (wpE_seq (rg (q0 (vp p1) (q0 (vi t1) ?_)))))))
 replace h := h H1 w1 hs
 replace hs := hs.here
 refine st_call (want0 rfl) (xc Try.call94) (h.mono ?_)
 rintro e w2 ⟨r1, rfl, hk, h⟩
 refine ⟨_, rfl, ?_⟩
 obtain ⟨hs, hb⟩ := hk.hh hs hb
 refine q0 (vb (!r1)) (wpL_nil (th_n ?_))
 refine wpE_cond (t := (!r1)) (by kernel_rfl) (fun hc1 => ?_) (fun hc1 => ?_)
 ·replace h := h.1 hc1
  refine wpE_seq (rg (q0 (.agg #[(vi 0), (vi 0), (vi 0), (vu 0), (vs ⟨#[]⟩), (vi 0), (vi 0)]) (st_set (want0 rfl) (x_storeA (a := p2) (vs := [(vi 0), (vi 0), (vi 0), (vu 0), (vs ⟨#[]⟩), (vi 0), (vi 0)]) (by kernel_rfl) (by kernel_rfl) rfl (Try.sizeOf93 _) rfl (hb.canWs0 0 7 gZ (by kernel_rfl))) ?_)))
  intro w3 hn2
  have hsb : Hst w0 H1 w2 H1 w3 ∧ HB H1 w3 [(p2, [(vi 0), (vi 0), (vi 0), (vu 0), (vs ⟨#[]⟩), (vi 0), (vi 0)], 93)] := by
   rw [hn2]
   exact hb.store0 (i := 0) (vs := [(vi 0), (vi 0), (vi 0), (vu 0), (vs ⟨#[]⟩), (vi 0), (vi 0)]) hs gZ (by kernel_rfl) (by kernel_rfl)
  clear hs hb hn2
  obtain ⟨hs, hb⟩ := hsb
  refine q0 (vb false) (wpL_nil (th_n (wpE_ret (th_r ?_))))
  replace h := h w3 hs
  replace hs := hs.here
  refine resG (.inl rfl) (vs := [(.agg #[(vi 0), (vi 0), (vi 0), (vu 0), (vs ⟨#[]⟩), (vi 0), (vi 0)]), (vb false)]) (v := (.tuple #[(.agg #[(vi 0), (vi 0), (vi 0), (vu 0), (vs ⟨#[]⟩), (vi 0), (vi 0)]), (vb false)])) Try.results47 ⟨(RV.cellA (by kernel_rfl) (Try.isAgg93 _) (Try.sizeOf93 _) rfl (hb.row0 0 7 gZ (by kernel_rfl))), (rvT (by kernel_rfl)), trivial⟩ (by kernel_rfl) ?_
  exact ⟨0, 0, 0, 0, ⟨#[]⟩, 0, 0, false, rfl, h⟩
 ·replace h := h.2 hc1
  refine wpE_skip (th_n (wpE_seq (rg (q0 (vp p1) ?_))))
  obtain ⟨a1, hp1, h⟩ := h
  refine q2 (vp (some a1)) (x_nilCheck (p := p1) (by kernel_rfl) hp1) (q0 (vp (some a1)) ?_)
  obtain ⟨v1, hv3, h⟩ := h
  refine q2 v1.v (xl (Try.isAgg72 _) hv3) (q0 (vi t1) (q0 (vi (IntKind.i64.wrap (t1 - 1))) ?_))
  obtain ⟨a2, hv2, h⟩ := h
  refine q2 (vp (some a2)) (x_indexAddr (s := v1) (k := .i64) (i := (IntKind.i64.wrap (t1 - 1))) (by kernel_rfl) (by kernel_rfl) (Try.runUnderlying72 _) (Try.sizeOf93 _) hv2) ?_
  obtain ⟨aN, aO, aP, aQ, aR, bF, bG, hv1, h⟩ := h
  refine q2 (.agg #[(vi aN), (vi aO), (vi aP), (vu aQ), (vs aR), (vi bF), (vi bG)]) (x_loadA (a := a2) (vs := [(vi aN), (vi aO), (vi aP), (vu aQ), (vs aR), (vi bF), (vi bG)]) (by kernel_rfl) (Try.isAgg93 _) (Try.sizeOf93 _) rfl hv1) (st_set (want0 rfl) (x_storeA (a := p2) (vs := [(vi aN), (vi aO), (vi aP), (vu aQ), (vs aR), (vi bF), (vi bG)]) (by kernel_rfl) (by kernel_rfl) rfl (Try.sizeOf93 _) rfl (hb.canWs0 0 7 gZ (by kernel_rfl))) ?_)
  intro w4 hn3
  have hsb : Hst w0 H1 w2 H1 w4 ∧ HB H1 w4 [(p2, [(vi aN), (vi aO), (vi aP), (vu aQ), (vs aR), (vi bF), (vi bG)], 93)] := by
   rw [hn3]
   exact hb.store0 (i := 0) (vs := [(vi aN), (vi aO), (vi aP), (vu aQ), (vs aR), (vi bF), (vi bG)]) hs gZ (by kernel_rfl) (by kernel_rfl)
  clear hs hb hn3
  obtain ⟨hs, hb⟩ := hsb
  refine q0 (vb true) (wpL_nil (th_n (wpE_ret ?_)))
  replace h := h w4 hs
  replace hs := hs.here
  refine resG (.inl rfl) (vs := [(.agg #[(vi aN), (vi aO), (vi aP), (vu aQ), (vs aR), (vi bF), (vi bG)]), (vb true)]) (v := (.tuple #[(.agg #[(vi aN), (vi aO), (vi aP), (vu aQ), (vs aR), (vi bF), (vi bG)]), (vb true)])) Try.results47 ⟨(RV.cellA (by kernel_rfl) (Try.isAgg93 _) (Try.sizeOf93 _) rfl (hb.row0 0 7 gZ (by kernel_rfl))), (rvT (by kernel_rfl)), trivial⟩ (by kernel_rfl) ?_
  exact ⟨aN, aO, aP, aQ, aR, bF, bG, true, rfl, h⟩
theorem eqt_ref05_Pool_Has_eql_93 (a0 a1 : Int) (a2 a3 : Int) (a4 : ByteArray) (a5 a6 : Int) (b0 b1 : Int) (b2 b3 : Int) (b4 : ByteArray) (b5 b6 : Int) (w : World) : (Go.binOp .eql 93 (.agg #[(.int .i64 a0), (.int .i64 a1), (.int .i64 a2), (.int .u64 a3), (.string a4), (.int .i64 a5), (.int .i64 a6)]) (.agg #[(.int .i64 b0), (.int .i64 b1), (.int .i64 b2), (.int .u64 b3), (.string b4), (.int .i64 b5), (.int .i64 b6)])).run Try.prog w = .ok (.bool ((a0 == b0) && ((a1 == b1) && ((a2 == b2) && ((a3 == b3) && ((decide (a4 = b4)) && ((a5 == b5) && (a6 == b6)))))))) w := by
 simp [Go.binOp, Op.equal, Op.maxDepth, go_sem, streq, bne]
 repeat' split
 all_goals simp_all
def m_ref05_Pool_Has_l1 (p1 : Option Addr) (aA aB : Int) (aC aE : Int) (aD : ByteArray) (aF aG i1 : Int) (w0 : World) (Hl1 : Nat → Prop) (wl1 : World) (Kc1 : Int → (Nat → Prop) → World → Prop) (K : Int → Bool → World → Prop) : Prop :=
 ∃ a1 : Addr, p1 = some a1 ∧
 ∃ v1 : Sl, wl1.cell? a1 = some v1.v ∧
 Br (decide (i1 < (v1.len : Int)))
  (∃ a2 : Addr, p1 = some a2 ∧
  ∀ (w2 : World), Hst w0 Hl1 wl1 Hl1 w2 →
  ∃ v2 : Sl, w2.cell? a2 = some v2.v ∧
  ∃ a3 : Addr, At v2 i1 7 a3 ∧
  ∃ aN aO : Int, ∃ aP aQ : Int, ∃ aR : ByteArray, ∃ bF bG : Int, Row w2 a3 [(vi aN), (vi aO), (vi aP), (vu aQ), (vs aR), (vi bF), (vi bG)] ∧
  Br ((aN == aA) && ((aO == aB) && ((aP == aC) && ((aQ == aE) && ((decide (aR = aD)) && ((bF == aF) && (bG == aG)))))))
   (K (IntKind.i64.wrap (i1 + 1)) true w2)
   (Kc1 (IntKind.i64.wrap (i1 + 1)) Hl1 w2))
  (K 0 false wl1)
def m_ref05_Pool_Has (p1 : Option Addr) (aA aB : Int) (aC aE : Int) (aD : ByteArray) (aF aG : Int) (w0 : World) (K : Int → Bool → World → Prop) : Prop :=
 ∀ (H1 : Nat → Prop) (w1 : World), Hst w0 None w0 H1 w1 →
 ∃ (I1 : Int → (Nat → Prop) → World → Prop) (mu1 : Int → World → Nat), I1 0 H1 w1 ∧
  ∀ (i1 : Int) (Hl1 : Nat → Prop) (wl1 : World), Hst w0 Hl1 wl1 Hl1 wl1 → I1 i1 Hl1 wl1 → m_ref05_Pool_Has_l1 p1 aA aB aC aE aD aF aG i1 w0 Hl1 wl1 (fun y'0 H' w' => I1 y'0 H' w' ∧ mu1 y'0 w' < mu1 i1 wl1) K
theorem w_ref05_Pool_Has (p1 : Option Addr) (aA aB : Int) (aC aE : Int) (aD : ByteArray) (aF aG : Int) (w0 : World) (K : Int → Bool → World → Prop) (h : m_ref05_Pool_Has p1 aA aB aC aE aD aF aG w0 K) :
  Calls Try.prog 49 #[(vp p1), (.agg #[(vi aA), (vi aB), (vi aC), (vu aE), (vs aD), (vi aF), (vi aG)])] w0 (fun e w' => ∃ r1 : Int, ∃ r2 : Bool, e = .returned (.tuple #[(vi r1), (vb r2)]) ∧ K r1 r2 w') := by
 unfold m_ref05_Pool_Has at h
 refine calls_of_wpE (args := [(vp p1), (.agg #[(vi aA), (vi aB), (vi aC), (vu aE), (vs aD), (vi aF), (vi aG)])]) Try.func49 rfl Try.ntmps49 (Nat.le_of_ble_eq_true rfl) ?_
 have hs := Hst.start w0
 have hb := HB.nil None w0
 refine wpE_seq (rg (sn (O := (.cells #[(vi aA), (vi aB), (vi aC), (vu aE), (vs aD), (vi aF), (vi aG)] 93)) xb ?_))
 intro p2 w1 hn1
 obtain ⟨H1, hs, hb⟩ := hs.alloc hb hn1
 refine q0 (vi 0) (q0 (vb false) (wpL_nil (th_n (wpE_seq (wpE_seq (rg (q0 (vi 0) (wpL_nil (th_n (wpE_block ?_))))))))))
 replace h := h H1 w1 hs
 replace hs := hs.here
 obtain ⟨I1, mu1, h0, hr⟩ := h
 refine wpE_loop (σ := Int × (Nat → Prop) × World) (fun s ρ w => w = s.2.2 ∧ Has ρ [(0, (vp p1)), (3, (vp (some p2))), (6, (vi s.1))] ∧ Hst w0 s.2.1 w s.2.1 w ∧ HB s.2.1 w [(p2, [(vi aA), (vi aB), (vi aC), (vu aE), (vs aD), (vi aF), (vi aG)], 93)] ∧ I1 s.1 s.2.1 s.2.2) (fun s => mu1 s.1 s.2.2) (0, H1, w1) ⟨rfl, Has.mk (by kernel_rfl), hs, hb, h0⟩ ?_
 clear hs hb
 rintro ⟨i1, Hl1, wl1⟩ ρ w ⟨hw, hH, hs, hb, hI⟩
 obtain rfl : wl1 = w := (show w = wl1 from hw).symm
 replace hH : Has ρ [(0, (vp p1)), (3, (vp (some p2))), (6, (vi i1))] := hH
 replace hs : Hst w0 Hl1 wl1 Hl1 wl1 := hs
 replace hb : HB Hl1 wl1 [(p2, [(vi aA), (vi aB), (vi aC), (vu aE), (vs aD), (vi aF), (vi aG)], 93)] := hb
 have h := hr i1 Hl1 wl1 hs hI
 clear hr h0
 unfold m_ref05_Pool_Has_l1 at h
 refine wpE_has hH ?_
 clear hH hI
 refine wpE_seq (wpE_seq (rg (q0 (vi i1) (q0 (vp p1) ?_))))
 obtain ⟨a1, hp1, h⟩ := h
 refine q2 (vp (some a1)) (x_nilCheck (p := p1) (by kernel_rfl) hp1) (q0 (vp (some a1)) ?_)
 obtain ⟨v1, hv4, h⟩ := h
 refine q2 v1.v (xl (Try.isAgg72 _) hv4) (q0 (vi (v1.len : Int)) (q0 (vb (decide (i1 < (v1.len : Int)))) (wpL_nil (th_n ?_))))
 refine wpE_cond (t := (decide (i1 < (v1.len : Int)))) (by kernel_rfl) (fun hc1 => ?_) (fun hc1 => ?_)
 ·replace h := h.1 hc1
  refine wpE_skip (th_n (wpE_seq (wpE_block (wpE_seq (wpE_drawnQ (by kernel_rfl) (by kernel_rfl) (by kernel_rfl) (by kernel_rfl) ?_)))))
  intro w2 hw2
  replace hs : Hst w0 Hl1 wl1 Hl1 w2 := by rw [hw2]; exact hs.drew
  replace hb : HB Hl1 w2 [(p2, [(vi aA), (vi aB), (vi aC), (vu aE), (vs aD), (vi aF), (vi aG)], 93)] := by rw [hw2]; exact hb.drew
  clear hw2
  refine qq 0 (vp p1) Kp0 (qgo (k := 1) (by kernel_rfl) ?_)
  obtain ⟨a2, hp2, h⟩ := h
  refine sxQ (v := (vp (some a2))) Kp1 (want0 rfl) rfl (x_nilCheck (p := p1) (by kernel_rfl) hp2) (qq 2 (vp (some a2)) Kp2 (qgo (k := 3) (by kernel_rfl) ?_))
  replace h := h w2 hs
  replace hs := hs.here
  obtain ⟨v2, hv3, h⟩ := h
  refine sxQ (v := v2.v) Kp3 (want0 rfl) rfl (xl (Try.isAgg72 _) hv3) (qq 4 (vi i1) Kp4 (qgo (k := 5) (by kernel_rfl) ?_))
  obtain ⟨a3, hv2, h⟩ := h
  refine sxQ (v := (vp (some a3))) Kp5 (want0 rfl) rfl (x_indexAddr (s := v2) (k := .i64) (i := i1) (by kernel_rfl) (by kernel_rfl) (Try.runUnderlying72 _) (Try.sizeOf93 _) hv2) (qgo (k := 6) (by kernel_rfl) ?_)
  obtain ⟨aN, aO, aP, aQ, aR, bF, bG, hv1, h⟩ := h
  refine sxQ (v := (.agg #[(vi aN), (vi aO), (vi aP), (vu aQ), (vs aR), (vi bF), (vi bG)])) Kp6 (want0 rfl) rfl (x_loadA (a := a3) (vs := [(vi aN), (vi aO), (vi aP), (vu aQ), (vs aR), (vi bF), (vi bG)]) (by kernel_rfl) (Try.isAgg93 _) (Try.sizeOf93 _) rfl hv1) (qr 7 (.agg #[(vi aA), (vi aB), (vi aC), (vu aE), (vs aD), (vi aF), (vi aG)]) Kp7 (x_loadA (a := p2) (vs := [(vi aA), (vi aB), (vi aC), (vu aE), (vs aD), (vi aF), (vi aG)]) (by kernel_rfl) (Try.isAgg93 _) (Try.sizeOf93 _) rfl (hb.row0 0 7 gZ (by kernel_rfl))) (qr 8 (vb ((aN == aA) && ((aO == aB) && ((aP == aC) && ((aQ == aE) && ((decide (aR = aD)) && ((bF == aF) && (bG == aG)))))))) Kp8 (x_aggeq (by kernel_rfl) (by kernel_rfl) (by kernel_rfl) (eqt_ref05_Pool_Has_eql_93 aN aO aP aQ aR bF bG aA aB aC aE aD aF aG _)) (wpX_nil (by kernel_rfl) (th_n ?_))))
  refine wpE_cond (t := ((aN == aA) && ((aO == aB) && ((aP == aC) && ((aQ == aE) && ((decide (aR = aD)) && ((bF == aF) && (bG == aG)))))))) (by kernel_rfl) (fun hc2 => ?_) (fun hc2 => ?_)
  ·replace h := h.1 hc2
   refine wpE_seq (rg (q0 (vi i1) (q0 (vi (IntKind.i64.wrap (i1 + 1))) (q0 (vi (IntKind.i64.wrap (i1 + 1))) (q0 (vb true) (wpL_nil (th_n (wpE_ret (bl_r (th_r (th_r ?_)))))))))))
   refine bl_r (th_r (res2 (.inl rfl) Try.results49 (v := (vi (IntKind.i64.wrap (i1 + 1)))) (by kernel_rfl) (v' := (vb true)) (by kernel_rfl) ?_))
   exact ⟨(IntKind.i64.wrap (i1 + 1)), true, rfl, h⟩
  ·replace h := h.2 hc2
   refine wpE_skip (bl_n (th_n (rg (q0 (vi i1) (q0 (vi (IntKind.i64.wrap (i1 + 1))) (q0 (vi (IntKind.i64.wrap (i1 + 1))) (wpL_nil (th_n ?_))))))))
   exact ⟨((IntKind.i64.wrap (i1 + 1)), Hl1, w2), ⟨rfl, Has.mk (by kernel_rfl), hs, hb, h.1⟩, h.2⟩
 ·replace h := h.2 hc1
  refine wpE_exit (th_x (th_x (bl_eq (th_n (wpE_seq (rg (q0 (vi 0) (q0 (vb false) (wpL_nil (th_n (wpE_ret ?_)))))))))))
  refine res2 (.inl rfl) Try.results49 (v := (vi 0)) (by kernel_rfl) (v' := (vb false)) (by kernel_rfl) ?_
  exact ⟨0, false, rfl, h⟩
def s_ref05_Kids (kind1 : Int) : Int :=
 (cond (kind1 == 4) 2 (cond (cond (kind1 == 5) (kind1 == 5) (cond (kind1 == 7) (kind1 == 7) (cond (kind1 == 8) (kind1 == 8) (kind1 == 9)))) 1 0))
theorem pw_ref05_Kids (kind1 : Int) (w0 : World) :
  Calls Try.prog 107 #[(vi kind1)] w0 (fun e w' => ∃ b'0 b'1 : Bool, ((kind1 == 4) = b'0 ∧ (cond (kind1 == 5) (kind1 == 5) (cond (kind1 == 7) (kind1 == 7) (cond (kind1 == 8) (kind1 == 8) (kind1 == 9)))) = b'1) ∧ (e = .returned (vi (cond b'0 2 (cond b'1 1 0)))) ∧ Pure w0 w') := by
 refine calls_of_wpE (args := [(vi kind1)]) Try.func107 rfl Try.ntmps107 (Nat.le_of_ble_eq_true rfl) (wpE_seq (rg (q0 (vi 0) (wpL_nil (th_n (wpE_seq (wpE_seq (rg (q0 (vi kind1) (wpL_nil (th_n ?_)))))))))))
 refine wpE_block (wpE_seq (rg (q0 (vb (kind1 == 4)) (q0 (vb (kind1 == 4)) (wpL_nil (th_n ?_))))))
 refine wpE_cond (t := (kind1 == 4)) (by kernel_rfl) (fun hc1 => ?_) (fun hc1 => ?_)
 ·skip
  refine wpE_seq (rg (q0 (vi 2) (wpL_nil (th_n (wpE_ret (bl_r (th_r (res1 (.inl rfl) Try.results107 (v := (vi 2)) (by kernel_rfl) ?_))))))))
  exact ⟨true, _, ⟨hc1, rfl⟩, by kernel_rfl, Ext.refl _⟩
 ·skip
  refine wpE_seq (wpE_seq (rg (q0 (vb (kind1 == 5)) (q0 (vb (kind1 == 5)) (wpL_nil (th_n ?_))))))
  refine wpE_via (fun ρ wJ => ∃ b1'0 b1'1 b1'2 : Bool, ((kind1 == 5) = b1'0) ∧ ((kind1 == 7) = b1'1) ∧ ((kind1 == 8) = b1'2) ∧ w0 = wJ ∧ Has ρ [(6, (vb (cond b1'0 (kind1 == 5) (cond b1'1 (kind1 == 7) (cond b1'2 (kind1 == 8) (kind1 == 9))))))]) ?_ ?_
  ·skip
   refine wpE_cond (t := (kind1 == 5)) (by kernel_rfl) (fun hc5 => ?_) (fun hc5 => ?_)
   ·skip
    refine wpE_skip (th_n ?_)
    exact ⟨true, _, _, hc5, rfl, rfl, rfl, Has.mk (by kernel_rfl)⟩
   ·skip
    refine wpE_seq (rg (q0 (vb (kind1 == 7)) (q0 (vb (kind1 == 7)) (wpL_nil (th_n ?_)))))
    refine wpE_cond (t := (kind1 == 7)) (by kernel_rfl) (fun hc6 => ?_) (fun hc6 => ?_)
    ·skip
     refine wpE_skip (th_n ?_)
     exact ⟨false, true, _, hc5, hc6, rfl, rfl, Has.mk (by kernel_rfl)⟩
    ·skip
     refine wpE_seq (rg (q0 (vb (kind1 == 8)) (q0 (vb (kind1 == 8)) (wpL_nil (th_n ?_)))))
     refine wpE_cond (t := (kind1 == 8)) (by kernel_rfl) (fun hc7 => ?_) (fun hc7 => ?_)
     ·skip
      refine wpE_skip (th_n ?_)
      exact ⟨false, false, true, hc5, hc6, hc7, rfl, Has.mk (by kernel_rfl)⟩
     ·skip
      refine rg (q0 (vb (kind1 == 9)) (q0 (vb (kind1 == 9)) (wpL_nil (th_n ?_))))
      exact ⟨false, false, false, hc5, hc6, hc7, rfl, Has.mk (by kernel_rfl)⟩
  ·rintro ρ w1 ⟨b1'0, b1'1, b1'2, he0, he1, he2, hw, hH⟩
   subst he0
   subst he1
   subst he2
   subst hw
   refine norm_has hH ?_
   clear hH
   refine th_n ?_
   refine wpE_cond (t := (cond (kind1 == 5) (kind1 == 5) (cond (kind1 == 7) (kind1 == 7) (cond (kind1 == 8) (kind1 == 8) (kind1 == 9))))) (by kernel_rfl) (fun hc8 => ?_) (fun hc8 => ?_)
   ·skip
    refine wpE_seq (rg (q0 (vi 1) (wpL_nil (th_n (wpE_ret (bl_r (th_r (res1 (.inl rfl) Try.results107 (v := (vi 1)) (by kernel_rfl) ?_))))))))
    exact ⟨false, true, ⟨hc1, hc8⟩, by kernel_rfl, Ext.refl _⟩
   ·skip
    refine wpE_skip (bl_n (th_n (wpE_seq (rg (q0 (vi 0) (wpL_nil (th_n (wpE_ret (res1 (.inl rfl) Try.results107 (v := (vi 0)) (by kernel_rfl) ?_)))))))))
    exact ⟨false, false, ⟨hc1, hc8⟩, by kernel_rfl, Ext.refl _⟩
theorem p_ref05_Kids (kind1 : Int) (w0 : World) : Calls Try.prog 107 #[(.int .i64 kind1)] w0 (fun e w' => e = .returned (.int .i64 (s_ref05_Kids kind1)) ∧ Pure w0 w') := by
 refine (pw_ref05_Kids kind1 w0).mono ?_
 rintro e w' ⟨b'0, b'1, ⟨e0, e1⟩, h, E⟩
 subst e0
 subst e1
 exact ⟨h, E⟩
def m_ref05_Parts_l1 (aH : Sl) (most1 n1 i1 : Int) (w0 : World) (Hl1 : Nat → Prop) (wl1 : World) (Kc1 : Int → Int → (Nat → Prop) → World → Prop) (K : Int → World → Prop) : Prop :=
 Br ((decide (i1 < (aH.len : Int))) && (decide (n1 ≤ most1)))
  (∃ a1 : Addr, At aH i1 6 a1 ∧
  ∀ (H2 : Nat → Prop) (w2 : World), Hst w0 Hl1 wl1 H2 w2 →
  ∃ aN aO : Int, ∃ aP aQ : Int, ∃ aR : ByteArray, ∃ bC : Sl, Row w2 a1 [(vi aN), (vi aO), (vi aP), (vu aQ), (vs aR), bC.v] ∧
  Calls Try.prog 71 #[(.agg #[(vi aN), (vi aO), (vi aP), (vu aQ), (vs aR), bC.v]), (vi (IntKind.i64.wrap (most1 - n1)))] w2 (fun e w3 => ∃ r1 : Int, e = .returned (vi r1) ∧ 
   Kept H2 w2 w3 ∧
   Kc1 (IntKind.i64.wrap (n1 + r1)) (IntKind.i64.wrap (i1 + 1)) H2 w3))
  (∀ (H2 : Nat → Prop) (w2 : World), Hst w0 Hl1 wl1 H2 w2 →
  K n1 w2)
def m_ref05_Parts (aI aJ : Int) (aK aL : Int) (aM : ByteArray) (aH : Sl) (most1 : Int) (w0 : World) (K : Int → World → Prop) : Prop :=
 ∀ (H1 : Nat → Prop) (w1 : World), Hst w0 None w0 H1 w1 →
 ∃ (I1 : Int → Int → (Nat → Prop) → World → Prop) (mu1 : Int → Int → World → Nat), I1 1 0 H1 w1 ∧
  ∀ (n1 i1 : Int) (Hl1 : Nat → Prop) (wl1 : World), Hst w0 Hl1 wl1 Hl1 wl1 → I1 n1 i1 Hl1 wl1 → m_ref05_Parts_l1 aH most1 n1 i1 w0 Hl1 wl1 (fun y'0 y'1 H' w' => I1 y'0 y'1 H' w' ∧ mu1 y'0 y'1 w' < mu1 n1 i1 wl1) K
theorem w_ref05_Parts (aI aJ : Int) (aK aL : Int) (aM : ByteArray) (aH : Sl) (most1 : Int) (w0 : World) (K : Int → World → Prop) (h : m_ref05_Parts aI aJ aK aL aM aH most1 w0 K) :
  Calls Try.prog 71 #[(.agg #[(vi aI), (vi aJ), (vi aK), (vu aL), (vs aM), aH.v]), (vi most1)] w0 (fun e w' => ∃ r2 : Int, e = .returned (vi r2) ∧ K r2 w') := by
 unfold m_ref05_Parts at h
 refine calls_of_wpE (args := [(.agg #[(vi aI), (vi aJ), (vi aK), (vu aL), (vs aM), aH.v]), (vi most1)]) Try.func71 rfl Try.ntmps71 (Nat.le_of_ble_eq_true rfl) ?_
 have hs := Hst.start w0
 have hb := HB.nil None w0
 refine wpE_seq (rg (sn (O := (.cells #[(vi aI), (vi aJ), (vi aK), (vu aL), (vs aM), aH.v] 116)) xb ?_))
 intro p1 w1 hn1
 obtain ⟨H1, hs, hb⟩ := hs.alloc hb hn1
 refine q0 (vi 0) (wpL_nil (th_n (wpE_seq (rg (q0 (vi 1) (wpL_nil (th_n (wpE_seq (wpE_seq (rg (q0 (vi 0) ?_)))))))))))
 refine wpL_nil (th_n (wpE_block ?_))
 replace h := h H1 w1 hs
 replace hs := hs.here
 obtain ⟨I1, mu1, h0, hr⟩ := h
 refine wpE_loop (σ := Int × Int × (Nat → Prop) × World) (fun s ρ w => w = s.2.2.2 ∧ Has ρ [(1, (vi most1)), (2, (vp (some p1))), (5, (vi s.1)), (6, (vi s.2.1))] ∧ Hst w0 s.2.2.1 w s.2.2.1 w ∧ HB s.2.2.1 w [(p1, [(vi aI), (vi aJ), (vi aK), (vu aL), (vs aM), aH.v], 116)] ∧ I1 s.1 s.2.1 s.2.2.1 s.2.2.2) (fun s => mu1 s.1 s.2.1 s.2.2.2) (1, 0, H1, w1) ⟨rfl, Has.mk (by kernel_rfl), hs, hb, h0⟩ ?_
 clear hs hb
 rintro ⟨n1, i1, Hl1, wl1⟩ ρ w ⟨hw, hH, hs, hb, hI⟩
 obtain rfl : wl1 = w := (show w = wl1 from hw).symm
 replace hH : Has ρ [(1, (vi most1)), (2, (vp (some p1))), (5, (vi n1)), (6, (vi i1))] := hH
 replace hs : Hst w0 Hl1 wl1 Hl1 wl1 := hs
 replace hb : HB Hl1 wl1 [(p1, [(vi aI), (vi aJ), (vi aK), (vu aL), (vs aM), aH.v], 116)] := hb
 have h := hr n1 i1 Hl1 wl1 hs hI
 clear hr h0
 unfold m_ref05_Parts_l1 at h
 refine wpE_has hH ?_
 clear hH hI
 refine wpE_seq (wpE_seq ?_)
 refine wpE_via (fun ρ wJ => ∃ b1'0 : Bool, ∃ HJ : Nat → Prop, ((decide (i1 < (aH.len : Int))) = b1'0) ∧ Hst w0 Hl1 wl1 HJ wJ ∧ HB HJ wJ [(p1, [(vi aI), (vi aJ), (vi aK), (vu aL), (vs aM), aH.v], 116)] ∧ Has ρ [(1, (vi most1)), (2, (vp (some p1))), (5, (vi n1)), (6, (vi i1)), (16, (vb (b1'0 && (decide (n1 ≤ most1)))))]) ?_ ?_
 ·skip
  refine rg (q0 (vi i1) (q0 (vp (some (p1.add 5))) (q2 aH.v (xl (Try.isAgg22 _) (hb.c 0 5 gZ)) (q0 (vi (aH.len : Int)) (q0 (vb (decide (i1 < (aH.len : Int)))) (q0 (vb (decide (i1 < (aH.len : Int)))) ?_))))))
  rcases Bool.eq_false_or_eq_true (decide (i1 < (aH.len : Int))) with hg2 | hg2
  ·skip
   refine q1 (vi n1) (want1 rfl (yD 12 hg2)) (q1 (vi most1) (want1 rfl (yD 12 hg2)) (q1 (vb (decide (n1 ≤ most1))) (want1 rfl (yD 12 hg2)) (q2 (vb (decide (n1 ≤ most1))) (xT hg2) (wpL_nil (th_n ?_)))))
   exact ⟨true, _, hg2, hs, hb, Has.mk (by kernel_rfl)⟩
  ·skip
   refine sk (yD 12 hg2) (sk (yD 12 hg2) (sk (yD 12 hg2) (q2 (vb false) (xF hg2) (wpL_nil (th_n ?_)))))
   exact ⟨false, _, hg2, hs, hb, Has.mk (by kernel_rfl)⟩
 ·clear hs hb
  rintro ρ w2 ⟨b1'0, H2, he0, hs, hb, hH⟩
  subst he0
  refine norm_has hH ?_
  clear hH
  refine th_n ?_
  refine wpE_cond (t := ((decide (i1 < (aH.len : Int))) && (decide (n1 ≤ most1)))) (by kernel_rfl) (fun hc1 => ?_) (fun hc1 => ?_)
  ·replace h := h.1 hc1
   refine wpE_skip (th_n (wpE_seq (wpE_block (rg (q0 (vi n1) (q0 (vp (some (p1.add 5))) (q2 aH.v (xl (Try.isAgg22 _) (hb.c 0 5 gZ)) (q0 (vi i1) ?_))))))))
   obtain ⟨a1, hv2, h⟩ := h
   refine q2 (vp (some a1)) (x_indexAddr (s := aH) (k := .i64) (i := i1) (by kernel_rfl) (by kernel_rfl) (Try.runUnderlying22 _) (Try.sizeOf116 _) hv2) ?_
   replace h := h H2 w2 hs
   replace hs := hs.here
   obtain ⟨aN, aO, aP, aQ, aR, bC, hv1, h⟩ := h
   refine q2 (.agg #[(vi aN), (vi aO), (vi aP), (vu aQ), (vs aR), bC.v]) (x_loadA (a := a1) (vs := [(vi aN), (vi aO), (vi aP), (vu aQ), (vs aR), bC.v]) (by kernel_rfl) (Try.isAgg116 _) (Try.sizeOf116 _) rfl hv1) (q0 (vi most1) (q0 (vi n1) (q0 (vi (IntKind.i64.wrap (most1 - n1))) ?_)))
   refine st_call (want0 rfl) (xc Try.call71) (h.mono ?_)
   rintro e w3 ⟨r1, rfl, hk, h⟩
   refine ⟨_, rfl, ?_⟩
   obtain ⟨hs, hb⟩ := hk.hh hs hb
   refine q0 (vi (IntKind.i64.wrap (n1 + r1))) (q0 (vi (IntKind.i64.wrap (n1 + r1))) (wpL_nil (bl_n (th_n (rg (q0 (vi i1) (q0 (vi (IntKind.i64.wrap (i1 + 1))) (q0 (vi (IntKind.i64.wrap (i1 + 1))) (wpL_nil (th_n ?_))))))))))
   exact ⟨((IntKind.i64.wrap (n1 + r1)), (IntKind.i64.wrap (i1 + 1)), H2, w3), ⟨rfl, Has.mk (by kernel_rfl), hs, hb, h.1⟩, h.2⟩
  ·replace h := h.2 hc1
   refine wpE_exit (th_x (th_x (bl_eq (th_n (wpE_seq (rg (q0 (vi n1) (q0 (vi n1) (wpL_nil (th_n (wpE_ret ?_)))))))))))
   replace h := h H2 w2 hs
   replace hs := hs.here
   refine res1 (.inl rfl) Try.results71 (v := (vi n1)) (by kernel_rfl) ?_
   exact ⟨n1, rfl, h⟩
def m_ref05_New  (w0 : World) (K : (Option Addr) → World → Prop) : Prop :=
 ∀ (p1 : Addr) (w1 : World), New w0 (.cells #[Sl.nil.v, Sl.nil.v, Sl.nil.v] 75) p1 w1 →
 K (some p1) w1
theorem w_ref05_New  (w0 : World) (K : (Option Addr) → World → Prop) (h : m_ref05_New  w0 K) :
  Calls Try.prog 75 #[] w0 (fun e w' => ∃ r1 : Option Addr, e = .returned (vp r1) ∧ K r1 w') := by
 unfold m_ref05_New at h
 refine calls_of_wpE (args := []) Try.func75 rfl Try.ntmps75 (Nat.le_of_ble_eq_true rfl) (wpE_seq (rg (q0 (vp none) (wpL_nil (th_n (wpE_seq (rg (q0 (.agg #[Sl.nil.v, Sl.nil.v, Sl.nil.v]) (sn (O := (.cells #[Sl.nil.v, Sl.nil.v, Sl.nil.v] 75)) xb ?_)))))))))
 intro p1 w1 hn1
 replace h := h p1 w1 hn1
 refine q0 (vp (some p1)) (wpL_nil (th_n (wpE_ret (res1 (.inl rfl) Try.results75 (v := (vp (some p1))) (by kernel_rfl) ?_))))
 exact ⟨(some p1), rfl, h⟩
def s_ref05_node (aI aJ : Int) (aK aL : Int) (aM : ByteArray) (aH : Sl) : Int × Int × Int × Int × ByteArray × Int × Int :=
 (aI, aJ, aK, aL, aM, 0, 0)
theorem pw_ref05_node (aI aJ : Int) (aK aL : Int) (aM : ByteArray) (aH : Sl) (w0 : World) :
  Calls Try.prog 160 #[(.agg #[(vi aI), (vi aJ), (vi aK), (vu aL), (vs aM), aH.v])] w0 (fun e w' => (e = .returned (.agg #[(vi aI), (vi aJ), (vi aK), (vu aL), (vs aM), (vi 0), (vi 0)])) ∧ Pure w0 w') := by
 refine calls_of_wpE (args := [(.agg #[(vi aI), (vi aJ), (vi aK), (vu aL), (vs aM), aH.v])]) Try.func160 rfl Try.ntmps160 (Nat.le_of_ble_eq_true rfl) ?_
 have hs := Hst.start w0
 have hb := HB.nil None w0
 refine wpE_seq (rg (sn (O := (.cells #[(vi aI), (vi aJ), (vi aK), (vu aL), (vs aM), aH.v] 116)) xb ?_))
 intro p1 w1 hn1
 obtain ⟨H1, hs, hb⟩ := hs.alloc hb hn1
 refine sn (O := (.cells #[(vi 0), (vi 0), (vi 0), (vu 0), (vs ⟨#[]⟩), (vi 0), (vi 0)] 93)) (x_alloc (Try.zeroValue93 _) rfl) ?_
 intro p2 w2 hn2
 obtain ⟨H2, hs, hb⟩ := hs.alloc hb hn2
 refine wpL_nil (th_n (wpE_seq (rg (q0 (vp (some p1)) (q2 (vi aI) (xl (Try.isAgg3 _) (hb.c0 1 (gS gZ))) (q0 (vp (some (p1.add 1))) (q2 (vi aJ) (xl (Try.isAgg3 _) (hb.c 1 1 (gS gZ))) (q0 (vp (some (p1.add 2))) (q2 (vi aK) (xl (Try.isAgg3 _) (hb.c 1 2 (gS gZ))) (q0 (vp (some (p1.add 3))) (q2 (vu aL) (xl (Try.isAgg38 _) (hb.c 1 3 (gS gZ))) ?_)))))))))))
 refine q0 (vp (some (p1.add 4))) (q2 (vs aM) (xl (Try.isAgg9 _) (hb.c 1 4 (gS gZ))) (q0 (.agg #[(vi aI), (vi aJ), (vi aK), (vu aL), (vs aM), (vi 0), (vi 0)]) (st_set (want0 rfl) (x_storeA (a := p2) (vs := [(vi aI), (vi aJ), (vi aK), (vu aL), (vs aM), (vi 0), (vi 0)]) (by kernel_rfl) (by kernel_rfl) rfl (Try.sizeOf93 _) rfl (hb.canWs0 0 7 gZ (by kernel_rfl))) ?_)))
 intro w3 hn3
 have hsb : Hst w0 None w0 H2 w3 ∧ HB H2 w3 [(p2, [(vi aI), (vi aJ), (vi aK), (vu aL), (vs aM), (vi 0), (vi 0)], 93), (p1, [(vi aI), (vi aJ), (vi aK), (vu aL), (vs aM), aH.v], 116)] := by
  rw [hn3]
  exact hb.store0 (i := 0) (vs := [(vi aI), (vi aJ), (vi aK), (vu aL), (vs aM), (vi 0), (vi 0)]) hs gZ (by kernel_rfl) (by kernel_rfl)
 clear hs hb hn3
 obtain ⟨hs, hb⟩ := hsb
 refine wpL_nil (th_n (wpE_ret (resG (.inl rfl) (vs := [(.agg #[(vi aI), (vi aJ), (vi aK), (vu aL), (vs aM), (vi 0), (vi 0)])]) (v := (.agg #[(vi aI), (vi aJ), (vi aK), (vu aL), (vs aM), (vi 0), (vi 0)])) Try.results160 ⟨(RV.cellA (by kernel_rfl) (Try.isAgg93 _) (Try.sizeOf93 _) rfl (hb.row0 0 7 gZ (by kernel_rfl))), trivial⟩ (by kernel_rfl) ?_)))
 exact ⟨by kernel_rfl, (Ext.refl (F := None) _).hst hs⟩
theorem p_ref05_node (aI aJ : Int) (aK aL : Int) (aM : ByteArray) (aH : Sl) (w0 : World) : Calls Try.prog 160 #[(.agg #[(.int .i64 aI), (.int .i64 aJ), (.int .i64 aK), (.int .u64 aL), (.string aM), aH.v])] w0 (fun e w' => e = .returned (.agg #[(.int .i64 (s_ref05_node aI aJ aK aL aM aH).1), (.int .i64 (s_ref05_node aI aJ aK aL aM aH).2.1), (.int .i64 (s_ref05_node aI aJ aK aL aM aH).2.2.1), (.int .u64 (s_ref05_node aI aJ aK aL aM aH).2.2.2.1), (.string (s_ref05_node aI aJ aK aL aM aH).2.2.2.2.1), (.int .i64 (s_ref05_node aI aJ aK aL aM aH).2.2.2.2.2.1), (.int .i64 (s_ref05_node aI aJ aK aL aM aH).2.2.2.2.2.2)]) ∧ Pure w0 w') := pw_ref05_node aI aJ aK aL aM aH w0
def s_ref05_two (kind1 : Int) : Bool :=
 ((kind1 == 8) || (kind1 == 9))
theorem pw_ref05_two (kind1 : Int) (w0 : World) :
  Calls Try.prog 225 #[(vi kind1)] w0 (fun e w' => (e = .returned (vb ((kind1 == 8) || (kind1 == 9)))) ∧ Pure w0 w') := by
 refine calls_of_wpE (args := [(vi kind1)]) Try.func225 rfl Try.ntmps225 (Nat.le_of_ble_eq_true rfl) (wpE_seq (rg (q0 (vb false) (wpL_nil (th_n (wpE_seq ?_))))))
 refine wpE_via (fun ρ wJ => w0 = wJ ∧ Has ρ [(2, (vb ((kind1 == 8) || (kind1 == 9))))]) ?_ ?_
 ·skip
  refine rg (q0 (vi kind1) (q0 (vb (kind1 == 8)) (q0 (vb (kind1 == 8)) ?_)))
  refine wpL_join 3 (fun ρ wJ => ∃ b3'0 : Bool, ((kind1 == 8) = b3'0) ∧ w0 = wJ ∧ Has ρ [(8, (vb (b3'0 || (kind1 == 9))))]) ?_ ?_
  ·rintro ρ w3 ⟨b3'0, he0, hw, hH⟩
   subst he0
   subst hw
   refine wpL_has hH ?_
   clear hH
   refine q0 (vb ((kind1 == 8) || (kind1 == 9))) (wpL_nil (th_n ?_))
   exact ⟨rfl, Has.mk (by kernel_rfl)⟩
  ·skip
   rcases Bool.eq_false_or_eq_true (kind1 == 8) with hg4 | hg4
   ·skip
    refine sk (yD 5 hg4) (sk (yD 5 hg4) (q2 (vb true) (xT hg4) (wpL_nil ?_)))
    exact ⟨true, hg4, rfl, Has.mk (by kernel_rfl)⟩
   ·skip
    refine q1 (vi kind1) (want1 rfl (yD 5 hg4)) (q1 (vb (kind1 == 9)) (want1 rfl (yD 5 hg4)) (q2 (vb (kind1 == 9)) (xF hg4) (wpL_nil ?_)))
    exact ⟨false, hg4, rfl, Has.mk (by kernel_rfl)⟩
 ·rintro ρ w2 ⟨hw, hH⟩
  subst hw
  refine norm_has hH ?_
  clear hH
  refine th_n (wpE_ret (res1 (.inl rfl) Try.results225 (v := (vb ((kind1 == 8) || (kind1 == 9)))) (by kernel_rfl) ?_))
  exact ⟨by kernel_rfl, Ext.refl _⟩
theorem p_ref05_two (kind1 : Int) (w0 : World) : Calls Try.prog 225 #[(.int .i64 kind1)] w0 (fun e w' => e = .returned (.bool (s_ref05_two kind1)) ∧ Pure w0 w') := pw_ref05_two kind1 w0
def s_ref05_named (kind1 : Int) : Bool :=
 ((((kind1 == 1) || (kind1 == 6)) || (kind1 == 7)) || ((kind1 == 8) || (kind1 == 9)))
theorem pw_ref05_named (kind1 : Int) (w0 : World) :
  Calls Try.prog 223 #[(vi kind1)] w0 (fun e w' => (e = .returned (vb ((((kind1 == 1) || (kind1 == 6)) || (kind1 == 7)) || ((kind1 == 8) || (kind1 == 9))))) ∧ Pure w0 w') := by
 refine calls_of_wpE (args := [(vi kind1)]) Try.func223 rfl Try.ntmps223 (Nat.le_of_ble_eq_true rfl) ?_
 have hs := Hst.start w0
 have hb := HB.nil None w0
 refine wpE_seq (rg (q0 (vb false) (wpL_nil (th_n (wpE_seq ?_)))))
 refine wpE_via (fun ρ wJ => ∃ HJ : Nat → Prop, Hst w0 None w0 HJ wJ ∧ HB HJ wJ [] ∧ Has ρ [(2, (vb ((((kind1 == 1) || (kind1 == 6)) || (kind1 == 7)) || ((kind1 == 8) || (kind1 == 9)))))]) ?_ ?_
 ·skip
  refine rg (q0 (vi kind1) (q0 (vb (kind1 == 1)) (q0 (vb (kind1 == 1)) ?_)))
  refine wpL_join 3 (fun ρ wJ => ∃ b5'0 : Bool, ∃ HJ : Nat → Prop, ((kind1 == 1) = b5'0) ∧ Hst w0 None w0 HJ wJ ∧ HB HJ wJ [] ∧ Has ρ [(0, (vi kind1)), (8, (vb (b5'0 || (kind1 == 6))))]) ?_ ?_
  ·clear hs hb
   rintro ρ w7 ⟨b5'0, H5, he0, hs, hb, hH⟩
   subst he0
   refine wpL_has hH ?_
   clear hH
   refine q0 (vb ((kind1 == 1) || (kind1 == 6))) ?_
   refine wpL_join 3 (fun ρ wJ => ∃ b6'0 : Bool, ∃ HJ : Nat → Prop, (((kind1 == 1) || (kind1 == 6)) = b6'0) ∧ Hst w0 None w0 HJ wJ ∧ HB HJ wJ [] ∧ Has ρ [(0, (vi kind1)), (12, (vb (b6'0 || (kind1 == 7))))]) ?_ ?_
   ·clear hs hb
    rintro ρ w8 ⟨b6'0, H6, he0, hs, hb, hH⟩
    subst he0
    refine wpL_has hH ?_
    clear hH
    refine q0 (vb (((kind1 == 1) || (kind1 == 6)) || (kind1 == 7))) ?_
    refine wpL_join 3 (fun ρ wJ => ∃ b7'0 : Bool, ∃ HJ : Nat → Prop, ((((kind1 == 1) || (kind1 == 6)) || (kind1 == 7)) = b7'0) ∧ Hst w0 None w0 HJ wJ ∧ HB HJ wJ [] ∧ Has ρ [(16, (vb (b7'0 || ((kind1 == 8) || (kind1 == 9)))))]) ?_ ?_
    ·clear hs hb
     rintro ρ w10 ⟨b7'0, H7, he0, hs, hb, hH⟩
     subst he0
     refine wpL_has hH ?_
     clear hH
     refine q0 (vb ((((kind1 == 1) || (kind1 == 6)) || (kind1 == 7)) || ((kind1 == 8) || (kind1 == 9)))) (wpL_nil (th_n ?_))
     exact ⟨_, hs, hb, Has.mk (by kernel_rfl)⟩
    ·skip
     rcases Bool.eq_false_or_eq_true (((kind1 == 1) || (kind1 == 6)) || (kind1 == 7)) with hg12 | hg12
     ·skip
      refine sk (yD 13 hg12) (sk (yD 13 hg12) (q2 (vb true) (xT hg12) (wpL_nil ?_)))
      exact ⟨true, _, hg12, hs, hb, Has.mk (by kernel_rfl)⟩
     ·skip
      refine q1 (vi kind1) (want1 rfl (yD 13 hg12)) ?_
      refine st_call (want1 rfl (yD 13 hg12)) (xc Try.call225) ((p_ref05_two kind1 w8).mono ?_)
      rintro e w11 ⟨he, hE⟩
      refine ⟨(vb ((kind1 == 8) || (kind1 == 9))), he.trans (by kernel_rfl), ?_⟩
      replace hs := hs.pure hE
      replace hb := hb.pure hE
      clear hE he
      refine q2 (vb ((kind1 == 8) || (kind1 == 9))) (xF hg12) (wpL_nil ?_)
      exact ⟨false, _, hg12, hs, hb, Has.mk (by kernel_rfl)⟩
   ·skip
    rcases Bool.eq_false_or_eq_true ((kind1 == 1) || (kind1 == 6)) with hg10 | hg10
    ·skip
     refine sk (yD 9 hg10) (sk (yD 9 hg10) (q2 (vb true) (xT hg10) (wpL_nil ?_)))
     exact ⟨true, _, hg10, hs, hb, Has.mk (by kernel_rfl)⟩
    ·skip
     refine q1 (vi kind1) (want1 rfl (yD 9 hg10)) (q1 (vb (kind1 == 7)) (want1 rfl (yD 9 hg10)) (q2 (vb (kind1 == 7)) (xF hg10) (wpL_nil ?_)))
     exact ⟨false, _, hg10, hs, hb, Has.mk (by kernel_rfl)⟩
  ·skip
   rcases Bool.eq_false_or_eq_true (kind1 == 1) with hg8 | hg8
   ·skip
    refine sk (yD 5 hg8) (sk (yD 5 hg8) (q2 (vb true) (xT hg8) (wpL_nil ?_)))
    exact ⟨true, _, hg8, hs, hb, Has.mk (by kernel_rfl)⟩
   ·skip
    refine q1 (vi kind1) (want1 rfl (yD 5 hg8)) (q1 (vb (kind1 == 6)) (want1 rfl (yD 5 hg8)) (q2 (vb (kind1 == 6)) (xF hg8) (wpL_nil ?_)))
    exact ⟨false, _, hg8, hs, hb, Has.mk (by kernel_rfl)⟩
 ·clear hs hb
  rintro ρ w6 ⟨H4, hs, hb, hH⟩
  refine norm_has hH ?_
  clear hH
  refine th_n (wpE_ret (res1 (.inl rfl) Try.results223 (v := (vb ((((kind1 == 1) || (kind1 == 6)) || (kind1 == 7)) || ((kind1 == 8) || (kind1 == 9))))) (by kernel_rfl) ?_))
  exact ⟨by kernel_rfl, (Ext.refl (F := None) _).hst hs⟩
theorem p_ref05_named (kind1 : Int) (w0 : World) : Calls Try.prog 223 #[(.int .i64 kind1)] w0 (fun e w' => e = .returned (.bool (s_ref05_named kind1)) ∧ Pure w0 w') := pw_ref05_named kind1 w0
def s_ref05_plain (aA aB : Int) (aC aE : Int) (aD : ByteArray) (aF aG : Int) : Bool :=
 (!((decide (aA < 1)) || (decide (aA > 9))) && (((((((s_ref05_named aA) || (aB == 0)) && (((aA == 8) || (aA == 9)) || (aC == 0))) && ((aA == 2) || (aE == 0))) && ((aA == 3) || (decide (aD = ⟨#[]⟩)))) && ((decide ((s_ref05_Kids aA) ≥ 1)) || (aF == 0))) && ((((s_ref05_Kids aA) : Int) == 2) || (aG == 0))))
theorem pw_ref05_plain (aA aB : Int) (aC aE : Int) (aD : ByteArray) (aF aG : Int) (w0 : World) :
  Calls Try.prog 222 #[(.agg #[(vi aA), (vi aB), (vi aC), (vu aE), (vs aD), (vi aF), (vi aG)])] w0 (fun e w' => ∃ b'0 : Bool, (((decide (aA < 1)) || (decide (aA > 9))) = b'0) ∧ (e = .returned (vb (!b'0 && (((((((s_ref05_named aA) || (aB == 0)) && (((aA == 8) || (aA == 9)) || (aC == 0))) && ((aA == 2) || (aE == 0))) && ((aA == 3) || (decide (aD = ⟨#[]⟩)))) && ((decide ((s_ref05_Kids aA) ≥ 1)) || (aF == 0))) && ((((s_ref05_Kids aA) : Int) == 2) || (aG == 0)))))) ∧ Pure w0 w') := by
 refine calls_of_wpE (args := [(.agg #[(vi aA), (vi aB), (vi aC), (vu aE), (vs aD), (vi aF), (vi aG)])]) Try.func222 rfl Try.ntmps222 (Nat.le_of_ble_eq_true rfl) ?_
 have hs := Hst.start w0
 have hb := HB.nil None w0
 refine wpE_seq (rg (sn (O := (.cells #[(vi aA), (vi aB), (vi aC), (vu aE), (vs aD), (vi aF), (vi aG)] 93)) xb ?_))
 intro p1 w1 hn1
 obtain ⟨H1, hs, hb⟩ := hs.alloc hb hn1
 refine q0 (vb false) (wpL_nil (th_n (wpE_seq (wpE_seq ?_))))
 refine wpE_via (fun ρ wJ => ∃ b1'0 : Bool, ∃ HJ : Nat → Prop, ((decide (aA < 1)) = b1'0) ∧ Hst w0 None w0 HJ wJ ∧ HB HJ wJ [(p1, [(vi aA), (vi aB), (vi aC), (vu aE), (vs aD), (vi aF), (vi aG)], 93)] ∧ Has ρ [(1, (vp (some p1))), (10, (vb (b1'0 || (decide (aA > 9)))))]) ?_ ?_
 ·skip
  refine rg (q0 (vp (some p1)) (q2 (vi aA) (xl (Try.isAgg3 _) (hb.c0 0 gZ)) (q0 (vb (decide (aA < 1))) (q0 (vb (decide (aA < 1))) ?_))))
  rcases Bool.eq_false_or_eq_true (decide (aA < 1)) with hg2 | hg2
  ·skip
   refine sk (yD 6 hg2) (sk (yD 6 hg2) (sk (yD 6 hg2) (q2 (vb true) (xT hg2) (wpL_nil (th_n ?_)))))
   exact ⟨true, _, hg2, hs, hb, Has.mk (by kernel_rfl)⟩
  ·skip
   refine q1 (vp (some p1)) (want1 rfl (yD 6 hg2)) (stp (v := (vi aA)) (want1 rfl (yD 6 hg2)) (xl (Try.isAgg3 _) (hb.c0 0 gZ)) (q1 (vb (decide (aA > 9))) (want1 rfl (yD 6 hg2)) (q2 (vb (decide (aA > 9))) (xF hg2) (wpL_nil (th_n ?_)))))
   exact ⟨false, _, hg2, hs, hb, Has.mk (by kernel_rfl)⟩
 ·clear hs hb
  rintro ρ w2 ⟨b1'0, H2, he0, hs, hb, hH⟩
  subst he0
  refine norm_has hH ?_
  clear hH
  refine th_n ?_
  refine wpE_cond (t := ((decide (aA < 1)) || (decide (aA > 9)))) (by kernel_rfl) (fun hc1 => ?_) (fun hc1 => ?_)
  ·skip
   refine wpE_seq (rg (q0 (vb false) (wpL_nil (th_n (wpE_ret (th_r (res1 (.inl rfl) Try.results222 (v := (vb false)) (by kernel_rfl) ?_)))))))
   exact ⟨true, hc1, by kernel_rfl, (Ext.refl (F := None) _).hst hs⟩
  ·skip
   refine wpE_skip (th_n (wpE_seq ?_))
   refine wpE_via (fun ρ wJ => ∃ HJ : Nat → Prop, Hst w0 None w0 HJ wJ ∧ HB HJ wJ [(p1, [(vi aA), (vi aB), (vi aC), (vu aE), (vs aD), (vi aF), (vi aG)], 93)] ∧ Has ρ [(2, (vb (((((((s_ref05_named aA) || (aB == 0)) && (((aA == 8) || (aA == 9)) || (aC == 0))) && ((aA == 2) || (aE == 0))) && ((aA == 3) || (decide (aD = ⟨#[]⟩)))) && ((decide ((s_ref05_Kids aA) ≥ 1)) || (aF == 0))) && ((((s_ref05_Kids aA) : Int) == 2) || (aG == 0)))))]) ?_ ?_
   ·skip
    refine rg (q0 (vp (some p1)) (q2 (vi aA) (xl (Try.isAgg3 _) (hb.c0 0 gZ)) ?_))
    refine st_call (want0 rfl) (xc Try.call223) ((p_ref05_named aA w2).mono ?_)
    rintro e w27 ⟨he, hE⟩
    refine ⟨(vb (s_ref05_named aA)), he.trans (by kernel_rfl), ?_⟩
    replace hs := hs.pure hE
    replace hb := hb.pure hE
    clear hE he
    refine q0 (vb (s_ref05_named aA)) ?_
    refine wpL_join 4 (fun ρ wJ => ∃ b19'0 : Bool, ∃ HJ : Nat → Prop, ((s_ref05_named aA) = b19'0) ∧ Hst w0 None w0 HJ wJ ∧ HB HJ wJ [(p1, [(vi aA), (vi aB), (vi aC), (vu aE), (vs aD), (vi aF), (vi aG)], 93)] ∧ Has ρ [(1, (vp (some p1))), (18, (vb (b19'0 || (aB == 0))))]) ?_ ?_
    ·clear hs hb
     rintro ρ w28 ⟨b19'0, H20, he0, hs, hb, hH⟩
     subst he0
     refine wpL_has hH ?_
     clear hH
     refine q0 (vb ((s_ref05_named aA) || (aB == 0))) ?_
     refine wpL_join 9 (fun ρ wJ => ∃ b21'0 : Bool, ∃ HJ : Nat → Prop, (((s_ref05_named aA) || (aB == 0)) = b21'0) ∧ Hst w0 None w0 HJ wJ ∧ HB HJ wJ [(p1, [(vi aA), (vi aB), (vi aC), (vu aE), (vs aD), (vi aF), (vi aG)], 93)] ∧ Has ρ [(1, (vp (some p1))), (28, (vb (b21'0 && (((aA == 8) || (aA == 9)) || (aC == 0)))))]) ?_ ?_
     ·clear hs hb
      rintro ρ w31 ⟨b21'0, H22, he0, hs, hb, hH⟩
      subst he0
      refine wpL_has hH ?_
      clear hH
      refine q0 (vb (((s_ref05_named aA) || (aB == 0)) && (((aA == 8) || (aA == 9)) || (aC == 0)))) ?_
      refine wpL_join 9 (fun ρ wJ => ∃ b24'0 : Bool, ∃ HJ : Nat → Prop, ((((s_ref05_named aA) || (aB == 0)) && (((aA == 8) || (aA == 9)) || (aC == 0))) = b24'0) ∧ Hst w0 None w0 HJ wJ ∧ HB HJ wJ [(p1, [(vi aA), (vi aB), (vi aC), (vu aE), (vs aD), (vi aF), (vi aG)], 93)] ∧ Has ρ [(1, (vp (some p1))), (38, (vb (b24'0 && ((aA == 2) || (aE == 0)))))]) ?_ ?_
      ·clear hs hb
       rintro ρ w35 ⟨b24'0, H25, he0, hs, hb, hH⟩
       subst he0
       refine wpL_has hH ?_
       clear hH
       refine q0 (vb ((((s_ref05_named aA) || (aB == 0)) && (((aA == 8) || (aA == 9)) || (aC == 0))) && ((aA == 2) || (aE == 0)))) ?_
       refine wpL_join 9 (fun ρ wJ => ∃ b27'0 : Bool, ∃ HJ : Nat → Prop, (((((s_ref05_named aA) || (aB == 0)) && (((aA == 8) || (aA == 9)) || (aC == 0))) && ((aA == 2) || (aE == 0))) = b27'0) ∧ Hst w0 None w0 HJ wJ ∧ HB HJ wJ [(p1, [(vi aA), (vi aB), (vi aC), (vu aE), (vs aD), (vi aF), (vi aG)], 93)] ∧ Has ρ [(1, (vp (some p1))), (48, (vb (b27'0 && ((aA == 3) || (decide (aD = ⟨#[]⟩))))))]) ?_ ?_
       ·clear hs hb
        rintro ρ w38 ⟨b27'0, H28, he0, hs, hb, hH⟩
        subst he0
        refine wpL_has hH ?_
        clear hH
        refine q0 (vb (((((s_ref05_named aA) || (aB == 0)) && (((aA == 8) || (aA == 9)) || (aC == 0))) && ((aA == 2) || (aE == 0))) && ((aA == 3) || (decide (aD = ⟨#[]⟩))))) ?_
        refine wpL_join 10 (fun ρ wJ => ∃ b30'0 : Bool, ∃ HJ : Nat → Prop, ((((((s_ref05_named aA) || (aB == 0)) && (((aA == 8) || (aA == 9)) || (aC == 0))) && ((aA == 2) || (aE == 0))) && ((aA == 3) || (decide (aD = ⟨#[]⟩)))) = b30'0) ∧ Hst w0 None w0 HJ wJ ∧ HB HJ wJ [(p1, [(vi aA), (vi aB), (vi aC), (vu aE), (vs aD), (vi aF), (vi aG)], 93)] ∧ Has ρ [(1, (vp (some p1))), (59, (vb (b30'0 && ((decide ((s_ref05_Kids aA) ≥ 1)) || (aF == 0)))))]) ?_ ?_
        ·clear hs hb
         rintro ρ w42 ⟨b30'0, H31, he0, hs, hb, hH⟩
         subst he0
         refine wpL_has hH ?_
         clear hH
         refine q0 (vb ((((((s_ref05_named aA) || (aB == 0)) && (((aA == 8) || (aA == 9)) || (aC == 0))) && ((aA == 2) || (aE == 0))) && ((aA == 3) || (decide (aD = ⟨#[]⟩)))) && ((decide ((s_ref05_Kids aA) ≥ 1)) || (aF == 0)))) ?_
         refine wpL_join 10 (fun ρ wJ => ∃ b33'0 : Bool, ∃ HJ : Nat → Prop, (((((((s_ref05_named aA) || (aB == 0)) && (((aA == 8) || (aA == 9)) || (aC == 0))) && ((aA == 2) || (aE == 0))) && ((aA == 3) || (decide (aD = ⟨#[]⟩)))) && ((decide ((s_ref05_Kids aA) ≥ 1)) || (aF == 0))) = b33'0) ∧ Hst w0 None w0 HJ wJ ∧ HB HJ wJ [(p1, [(vi aA), (vi aB), (vi aC), (vu aE), (vs aD), (vi aF), (vi aG)], 93)] ∧ Has ρ [(70, (vb (b33'0 && ((((s_ref05_Kids aA) : Int) == 2) || (aG == 0)))))]) ?_ ?_
         ·clear hs hb
          rintro ρ w47 ⟨b33'0, H34, he0, hs, hb, hH⟩
          subst he0
          refine wpL_has hH ?_
          clear hH
          refine q0 (vb (((((((s_ref05_named aA) || (aB == 0)) && (((aA == 8) || (aA == 9)) || (aC == 0))) && ((aA == 2) || (aE == 0))) && ((aA == 3) || (decide (aD = ⟨#[]⟩)))) && ((decide ((s_ref05_Kids aA) ≥ 1)) || (aF == 0))) && ((((s_ref05_Kids aA) : Int) == 2) || (aG == 0)))) (wpL_nil (th_n ?_))
          exact ⟨_, hs, hb, Has.mk (by kernel_rfl)⟩
         ·skip
          rcases Bool.eq_false_or_eq_true ((((((s_ref05_named aA) || (aB == 0)) && (((aA == 8) || (aA == 9)) || (aC == 0))) && ((aA == 2) || (aE == 0))) && ((aA == 3) || (decide (aD = ⟨#[]⟩)))) && ((decide ((s_ref05_Kids aA) ≥ 1)) || (aF == 0))) with hg64 | hg64
          ·skip
           refine q1 (vp (some p1)) (want1 rfl (yD 60 hg64)) (stp (v := (vi aA)) (want1 rfl (yD 60 hg64)) (xl (Try.isAgg3 _) (hb.c0 0 gZ)) ?_)
           refine st_call (want1 rfl (yD 60 hg64)) (xc Try.call107) ((p_ref05_Kids aA w42).mono ?_)
           rintro e w48 ⟨he, hE⟩
           refine ⟨(vi (s_ref05_Kids aA)), he.trans (by kernel_rfl), ?_⟩
           replace hs := hs.pure hE
           replace hb := hb.pure hE
           clear hE he
           refine q1 (vb (((s_ref05_Kids aA) : Int) == 2)) (want1 rfl (yD 60 hg64)) (q1 (vb (((s_ref05_Kids aA) : Int) == 2)) (want1 rfl (yD 60 hg64)) ?_)
           refine wpL_join 4 (fun ρ wJ => ∃ b34'0 : Bool, ∃ HJ : Nat → Prop, ((((s_ref05_Kids aA) : Int) == 2) = b34'0) ∧ Hst w0 None w0 HJ wJ ∧ HB HJ wJ [(p1, [(vi aA), (vi aB), (vi aC), (vu aE), (vs aD), (vi aF), (vi aG)], 93)] ∧ Has ρ [(60, (vb ((((((s_ref05_named aA) || (aB == 0)) && (((aA == 8) || (aA == 9)) || (aC == 0))) && ((aA == 2) || (aE == 0))) && ((aA == 3) || (decide (aD = ⟨#[]⟩)))) && ((decide ((s_ref05_Kids aA) ≥ 1)) || (aF == 0))))), (69, (vb (b34'0 || (aG == 0))))]) ?_ ?_
           ·clear hs hb
            rintro ρ w49 ⟨b34'0, H35, he0, hs, hb, hH⟩
            subst he0
            refine wpL_has hH ?_
            clear hH
            refine q2 (vb ((((s_ref05_Kids aA) : Int) == 2) || (aG == 0))) (xT hg64) (wpL_nil ?_)
            exact ⟨true, _, hg64, hs, hb, Has.mk (by kernel_rfl)⟩
           ·skip
            rcases Bool.eq_false_or_eq_true (((s_ref05_Kids aA) : Int) == 2) with hg66 | hg66
            ·skip
             refine sk (yD 65 hg66) (sk (yD 65 hg66) (sk (yD 65 hg66) (stp (v := (vb true)) (want1 rfl (yD 60 hg64)) (xT hg66) (wpL_nil ?_))))
             exact ⟨true, _, hg66, hs, hb, Has.mk (by kernel_rfl)⟩
            ·skip
             refine q1 (vp (some (p1.add 6))) (want1 rfl (yD 65 hg66)) (stp (v := (vi aG)) (want1 rfl (yD 65 hg66)) (xl (Try.isAgg41 _) (hb.c 0 6 gZ)) (q1 (vb (aG == 0)) (want1 rfl (yD 65 hg66)) (stp (v := (vb (aG == 0))) (want1 rfl (yD 60 hg64)) (xF hg66) (wpL_nil ?_))))
             exact ⟨false, _, hg66, hs, hb, Has.mk (by kernel_rfl)⟩
          ·skip
           refine sk (yD 60 hg64) (sk (yD 60 hg64) (sk (yD 60 hg64) (sk (yD 60 hg64) (sk (yD 60 hg64) (st_not (by kernel_rfl) (st_not (by kernel_rfl) (st_not (by kernel_rfl) (sk (yD 60 hg64) (q2 (vb false) (xF hg64) (wpL_nil ?_))))))))))
           exact ⟨false, _, hg64, hs, hb, Has.mk (by kernel_rfl)⟩
        ·skip
         rcases Bool.eq_false_or_eq_true (((((s_ref05_named aA) || (aB == 0)) && (((aA == 8) || (aA == 9)) || (aC == 0))) && ((aA == 2) || (aE == 0))) && ((aA == 3) || (decide (aD = ⟨#[]⟩)))) with hg58 | hg58
         ·skip
          refine q1 (vp (some p1)) (want1 rfl (yD 49 hg58)) (stp (v := (vi aA)) (want1 rfl (yD 49 hg58)) (xl (Try.isAgg3 _) (hb.c0 0 gZ)) ?_)
          refine st_call (want1 rfl (yD 49 hg58)) (xc Try.call107) ((p_ref05_Kids aA w38).mono ?_)
          rintro e w43 ⟨he, hE⟩
          refine ⟨(vi (s_ref05_Kids aA)), he.trans (by kernel_rfl), ?_⟩
          replace hs := hs.pure hE
          replace hb := hb.pure hE
          clear hE he
          refine q1 (vb (decide ((s_ref05_Kids aA) ≥ 1))) (want1 rfl (yD 49 hg58)) (q1 (vb (decide ((s_ref05_Kids aA) ≥ 1))) (want1 rfl (yD 49 hg58)) ?_)
          refine wpL_join 4 (fun ρ wJ => ∃ b31'0 : Bool, ∃ HJ : Nat → Prop, ((decide ((s_ref05_Kids aA) ≥ 1)) = b31'0) ∧ Hst w0 None w0 HJ wJ ∧ HB HJ wJ [(p1, [(vi aA), (vi aB), (vi aC), (vu aE), (vs aD), (vi aF), (vi aG)], 93)] ∧ Has ρ [(1, (vp (some p1))), (49, (vb (((((s_ref05_named aA) || (aB == 0)) && (((aA == 8) || (aA == 9)) || (aC == 0))) && ((aA == 2) || (aE == 0))) && ((aA == 3) || (decide (aD = ⟨#[]⟩)))))), (58, (vb (b31'0 || (aF == 0))))]) ?_ ?_
          ·clear hs hb
           rintro ρ w44 ⟨b31'0, H32, he0, hs, hb, hH⟩
           subst he0
           refine wpL_has hH ?_
           clear hH
           refine q2 (vb ((decide ((s_ref05_Kids aA) ≥ 1)) || (aF == 0))) (xT hg58) (wpL_nil ?_)
           exact ⟨true, _, hg58, hs, hb, Has.mk (by kernel_rfl)⟩
          ·skip
           rcases Bool.eq_false_or_eq_true (decide ((s_ref05_Kids aA) ≥ 1)) with hg60 | hg60
           ·skip
            refine sk (yD 54 hg60) (sk (yD 54 hg60) (sk (yD 54 hg60) (stp (v := (vb true)) (want1 rfl (yD 49 hg58)) (xT hg60) (wpL_nil ?_))))
            exact ⟨true, _, hg60, hs, hb, Has.mk (by kernel_rfl)⟩
           ·skip
            refine q1 (vp (some (p1.add 5))) (want1 rfl (yD 54 hg60)) (stp (v := (vi aF)) (want1 rfl (yD 54 hg60)) (xl (Try.isAgg41 _) (hb.c 0 5 gZ)) (q1 (vb (aF == 0)) (want1 rfl (yD 54 hg60)) (stp (v := (vb (aF == 0))) (want1 rfl (yD 49 hg58)) (xF hg60) (wpL_nil ?_))))
            exact ⟨false, _, hg60, hs, hb, Has.mk (by kernel_rfl)⟩
         ·skip
          refine sk (yD 49 hg58) (sk (yD 49 hg58) (sk (yD 49 hg58) (sk (yD 49 hg58) (sk (yD 49 hg58) (st_not (by kernel_rfl) (st_not (by kernel_rfl) (st_not (by kernel_rfl) (sk (yD 49 hg58) (q2 (vb false) (xF hg58) (wpL_nil ?_))))))))))
          exact ⟨false, _, hg58, hs, hb, Has.mk (by kernel_rfl)⟩
       ·skip
        rcases Bool.eq_false_or_eq_true ((((s_ref05_named aA) || (aB == 0)) && (((aA == 8) || (aA == 9)) || (aC == 0))) && ((aA == 2) || (aE == 0))) with hg52 | hg52
        ·skip
         refine q1 (vp (some p1)) (want1 rfl (yD 39 hg52)) (stp (v := (vi aA)) (want1 rfl (yD 39 hg52)) (xl (Try.isAgg3 _) (hb.c0 0 gZ)) (q1 (vb (aA == 3)) (want1 rfl (yD 39 hg52)) (q1 (vb (aA == 3)) (want1 rfl (yD 39 hg52)) ?_)))
         refine wpL_join 4 (fun ρ wJ => ∃ b28'0 : Bool, ∃ HJ : Nat → Prop, ((aA == 3) = b28'0) ∧ Hst w0 None w0 HJ wJ ∧ HB HJ wJ [(p1, [(vi aA), (vi aB), (vi aC), (vu aE), (vs aD), (vi aF), (vi aG)], 93)] ∧ Has ρ [(1, (vp (some p1))), (39, (vb ((((s_ref05_named aA) || (aB == 0)) && (((aA == 8) || (aA == 9)) || (aC == 0))) && ((aA == 2) || (aE == 0))))), (47, (vb (b28'0 || (decide (aD = ⟨#[]⟩)))))]) ?_ ?_
         ·clear hs hb
          rintro ρ w39 ⟨b28'0, H29, he0, hs, hb, hH⟩
          subst he0
          refine wpL_has hH ?_
          clear hH
          refine q2 (vb ((aA == 3) || (decide (aD = ⟨#[]⟩)))) (xT hg52) (wpL_nil ?_)
          exact ⟨true, _, hg52, hs, hb, Has.mk (by kernel_rfl)⟩
         ·skip
          rcases Bool.eq_false_or_eq_true (aA == 3) with hg54 | hg54
          ·skip
           refine sk (yD 43 hg54) (sk (yD 43 hg54) (sk (yD 43 hg54) (stp (v := (vb true)) (want1 rfl (yD 39 hg52)) (xT hg54) (wpL_nil ?_))))
           exact ⟨true, _, hg54, hs, hb, Has.mk (by kernel_rfl)⟩
          ·skip
           refine q1 (vp (some (p1.add 4))) (want1 rfl (yD 43 hg54)) (stp (v := (vs aD)) (want1 rfl (yD 43 hg54)) (xl (Try.isAgg9 _) (hb.c 0 4 gZ)) (stp (v := (vb (decide (aD = ⟨#[]⟩)))) (want1 rfl (yD 43 hg54)) (x_streq (by kernel_rfl) (by kernel_rfl)) (stp (v := (vb (decide (aD = ⟨#[]⟩)))) (want1 rfl (yD 39 hg52)) (xF hg54) (wpL_nil ?_))))
           exact ⟨false, _, hg54, hs, hb, Has.mk (by kernel_rfl)⟩
        ·skip
         refine sk (yD 39 hg52) (sk (yD 39 hg52) (sk (yD 39 hg52) (sk (yD 39 hg52) (st_not (by kernel_rfl) (st_not (by kernel_rfl) (st_not (by kernel_rfl) (sk (yD 39 hg52) (q2 (vb false) (xF hg52) (wpL_nil ?_)))))))))
         exact ⟨false, _, hg52, hs, hb, Has.mk (by kernel_rfl)⟩
      ·skip
       rcases Bool.eq_false_or_eq_true (((s_ref05_named aA) || (aB == 0)) && (((aA == 8) || (aA == 9)) || (aC == 0))) with hg46 | hg46
       ·skip
        refine q1 (vp (some p1)) (want1 rfl (yD 29 hg46)) (stp (v := (vi aA)) (want1 rfl (yD 29 hg46)) (xl (Try.isAgg3 _) (hb.c0 0 gZ)) (q1 (vb (aA == 2)) (want1 rfl (yD 29 hg46)) (q1 (vb (aA == 2)) (want1 rfl (yD 29 hg46)) ?_)))
        refine wpL_join 4 (fun ρ wJ => ∃ b25'0 : Bool, ∃ HJ : Nat → Prop, ((aA == 2) = b25'0) ∧ Hst w0 None w0 HJ wJ ∧ HB HJ wJ [(p1, [(vi aA), (vi aB), (vi aC), (vu aE), (vs aD), (vi aF), (vi aG)], 93)] ∧ Has ρ [(1, (vp (some p1))), (29, (vb (((s_ref05_named aA) || (aB == 0)) && (((aA == 8) || (aA == 9)) || (aC == 0))))), (37, (vb (b25'0 || (aE == 0))))]) ?_ ?_
        ·clear hs hb
         rintro ρ w36 ⟨b25'0, H26, he0, hs, hb, hH⟩
         subst he0
         refine wpL_has hH ?_
         clear hH
         refine q2 (vb ((aA == 2) || (aE == 0))) (xT hg46) (wpL_nil ?_)
         exact ⟨true, _, hg46, hs, hb, Has.mk (by kernel_rfl)⟩
        ·skip
         rcases Bool.eq_false_or_eq_true (aA == 2) with hg48 | hg48
         ·skip
          refine sk (yD 33 hg48) (sk (yD 33 hg48) (sk (yD 33 hg48) (stp (v := (vb true)) (want1 rfl (yD 29 hg46)) (xT hg48) (wpL_nil ?_))))
          exact ⟨true, _, hg48, hs, hb, Has.mk (by kernel_rfl)⟩
         ·skip
          refine q1 (vp (some (p1.add 3))) (want1 rfl (yD 33 hg48)) (stp (v := (vu aE)) (want1 rfl (yD 33 hg48)) (xl (Try.isAgg38 _) (hb.c 0 3 gZ)) (q1 (vb (aE == 0)) (want1 rfl (yD 33 hg48)) (stp (v := (vb (aE == 0))) (want1 rfl (yD 29 hg46)) (xF hg48) (wpL_nil ?_))))
          exact ⟨false, _, hg48, hs, hb, Has.mk (by kernel_rfl)⟩
       ·skip
        refine sk (yD 29 hg46) (sk (yD 29 hg46) (sk (yD 29 hg46) (sk (yD 29 hg46) (st_not (by kernel_rfl) (st_not (by kernel_rfl) (st_not (by kernel_rfl) (sk (yD 29 hg46) (q2 (vb false) (xF hg46) (wpL_nil ?_)))))))))
        exact ⟨false, _, hg46, hs, hb, Has.mk (by kernel_rfl)⟩
     ·skip
      rcases Bool.eq_false_or_eq_true ((s_ref05_named aA) || (aB == 0)) with hg40 | hg40
      ·skip
       refine q1 (vp (some p1)) (want1 rfl (yD 19 hg40)) (stp (v := (vi aA)) (want1 rfl (yD 19 hg40)) (xl (Try.isAgg3 _) (hb.c0 0 gZ)) ?_)
       refine st_call (want1 rfl (yD 19 hg40)) (xc Try.call225) ((p_ref05_two aA w28).mono ?_)
       rintro e w32 ⟨he, hE⟩
       refine ⟨(vb ((aA == 8) || (aA == 9))), he.trans (by kernel_rfl), ?_⟩
       replace hs := hs.pure hE
       replace hb := hb.pure hE
       clear hE he
       refine q1 (vb ((aA == 8) || (aA == 9))) (want1 rfl (yD 19 hg40)) ?_
       refine wpL_join 4 (fun ρ wJ => ∃ b22'0 : Bool, ∃ HJ : Nat → Prop, (((aA == 8) || (aA == 9)) = b22'0) ∧ Hst w0 None w0 HJ wJ ∧ HB HJ wJ [(p1, [(vi aA), (vi aB), (vi aC), (vu aE), (vs aD), (vi aF), (vi aG)], 93)] ∧ Has ρ [(1, (vp (some p1))), (19, (vb ((s_ref05_named aA) || (aB == 0)))), (27, (vb (b22'0 || (aC == 0))))]) ?_ ?_
       ·clear hs hb
        rintro ρ w33 ⟨b22'0, H23, he0, hs, hb, hH⟩
        subst he0
        refine wpL_has hH ?_
        clear hH
        refine q2 (vb (((aA == 8) || (aA == 9)) || (aC == 0))) (xT hg40) (wpL_nil ?_)
        exact ⟨true, _, hg40, hs, hb, Has.mk (by kernel_rfl)⟩
       ·skip
        rcases Bool.eq_false_or_eq_true ((aA == 8) || (aA == 9)) with hg42 | hg42
        ·skip
         refine sk (yD 23 hg42) (sk (yD 23 hg42) (sk (yD 23 hg42) (stp (v := (vb true)) (want1 rfl (yD 19 hg40)) (xT hg42) (wpL_nil ?_))))
         exact ⟨true, _, hg42, hs, hb, Has.mk (by kernel_rfl)⟩
        ·skip
         refine q1 (vp (some (p1.add 2))) (want1 rfl (yD 23 hg42)) (stp (v := (vi aC)) (want1 rfl (yD 23 hg42)) (xl (Try.isAgg3 _) (hb.c 0 2 gZ)) (q1 (vb (aC == 0)) (want1 rfl (yD 23 hg42)) (stp (v := (vb (aC == 0))) (want1 rfl (yD 19 hg40)) (xF hg42) (wpL_nil ?_))))
         exact ⟨false, _, hg42, hs, hb, Has.mk (by kernel_rfl)⟩
      ·skip
       refine sk (yD 19 hg40) (sk (yD 19 hg40) (sk (yD 19 hg40) (sk (yD 19 hg40) (st_not (by kernel_rfl) (st_not (by kernel_rfl) (st_not (by kernel_rfl) (sk (yD 19 hg40) (q2 (vb false) (xF hg40) (wpL_nil ?_)))))))))
       exact ⟨false, _, hg40, hs, hb, Has.mk (by kernel_rfl)⟩
    ·skip
     rcases Bool.eq_false_or_eq_true (s_ref05_named aA) with hg36 | hg36
     ·skip
      refine sk (yD 14 hg36) (sk (yD 14 hg36) (sk (yD 14 hg36) (q2 (vb true) (xT hg36) (wpL_nil ?_))))
      exact ⟨true, _, hg36, hs, hb, Has.mk (by kernel_rfl)⟩
     ·skip
      refine q1 (vp (some (p1.add 1))) (want1 rfl (yD 14 hg36)) (stp (v := (vi aB)) (want1 rfl (yD 14 hg36)) (xl (Try.isAgg3 _) (hb.c 0 1 gZ)) (q1 (vb (aB == 0)) (want1 rfl (yD 14 hg36)) (q2 (vb (aB == 0)) (xF hg36) (wpL_nil ?_))))
      exact ⟨false, _, hg36, hs, hb, Has.mk (by kernel_rfl)⟩
   ·clear hs hb
    rintro ρ w26 ⟨H19, hs, hb, hH⟩
    refine norm_has hH ?_
    clear hH
    refine th_n (wpE_ret (res1 (.inl rfl) Try.results222 (v := (vb (((((((s_ref05_named aA) || (aB == 0)) && (((aA == 8) || (aA == 9)) || (aC == 0))) && ((aA == 2) || (aE == 0))) && ((aA == 3) || (decide (aD = ⟨#[]⟩)))) && ((decide ((s_ref05_Kids aA) ≥ 1)) || (aF == 0))) && ((((s_ref05_Kids aA) : Int) == 2) || (aG == 0))))) (by kernel_rfl) ?_))
    exact ⟨false, hc1, by kernel_rfl, (Ext.refl (F := None) _).hst hs⟩
theorem p_ref05_plain (aA aB : Int) (aC aE : Int) (aD : ByteArray) (aF aG : Int) (w0 : World) : Calls Try.prog 222 #[(.agg #[(.int .i64 aA), (.int .i64 aB), (.int .i64 aC), (.int .u64 aE), (.string aD), (.int .i64 aF), (.int .i64 aG)])] w0 (fun e w' => e = .returned (.bool (s_ref05_plain aA aB aC aE aD aF aG)) ∧ Pure w0 w') := by
 refine (pw_ref05_plain aA aB aC aE aD aF aG w0).mono ?_
 rintro e w' ⟨b'0, e0, h, E⟩
 subst e0
 exact ⟨h, E⟩
def s_ref05_name (n1 : Int) : Bool :=
 ((decide (n1 ≥ 0)) && (decide (n1 < 16)))
theorem pw_ref05_name (n1 : Int) (w0 : World) :
  Calls Try.prog 224 #[(vi n1)] w0 (fun e w' => (e = .returned (vb ((decide (n1 ≥ 0)) && (decide (n1 < 16))))) ∧ Pure w0 w') := by
 refine calls_of_wpE (args := [(vi n1)]) Try.func224 rfl Try.ntmps224 (Nat.le_of_ble_eq_true rfl) (wpE_seq (rg (q0 (vb false) (wpL_nil (th_n (wpE_seq ?_))))))
 refine wpE_via (fun ρ wJ => w0 = wJ ∧ Has ρ [(2, (vb ((decide (n1 ≥ 0)) && (decide (n1 < 16)))))]) ?_ ?_
 ·skip
  refine rg (q0 (vi n1) (q0 (vb (decide (n1 ≥ 0))) (q0 (vb (decide (n1 ≥ 0))) ?_)))
  refine wpL_join 3 (fun ρ wJ => ∃ b3'0 : Bool, ((decide (n1 ≥ 0)) = b3'0) ∧ w0 = wJ ∧ Has ρ [(8, (vb (b3'0 && (decide (n1 < 16)))))]) ?_ ?_
  ·rintro ρ w3 ⟨b3'0, he0, hw, hH⟩
   subst he0
   subst hw
   refine wpL_has hH ?_
   clear hH
   refine q0 (vb ((decide (n1 ≥ 0)) && (decide (n1 < 16)))) (wpL_nil (th_n ?_))
   exact ⟨rfl, Has.mk (by kernel_rfl)⟩
  ·skip
   rcases Bool.eq_false_or_eq_true (decide (n1 ≥ 0)) with hg4 | hg4
   ·skip
    refine q1 (vi n1) (want1 rfl (yD 5 hg4)) (q1 (vb (decide (n1 < 16))) (want1 rfl (yD 5 hg4)) (q2 (vb (decide (n1 < 16))) (xT hg4) (wpL_nil ?_)))
    exact ⟨true, hg4, rfl, Has.mk (by kernel_rfl)⟩
   ·skip
    refine sk (yD 5 hg4) (sk (yD 5 hg4) (q2 (vb false) (xF hg4) (wpL_nil ?_)))
    exact ⟨false, hg4, rfl, Has.mk (by kernel_rfl)⟩
 ·rintro ρ w2 ⟨hw, hH⟩
  subst hw
  refine norm_has hH ?_
  clear hH
  refine th_n (wpE_ret (res1 (.inl rfl) Try.results224 (v := (vb ((decide (n1 ≥ 0)) && (decide (n1 < 16))))) (by kernel_rfl) ?_))
  exact ⟨by kernel_rfl, Ext.refl _⟩
theorem p_ref05_name (n1 : Int) (w0 : World) : Calls Try.prog 224 #[(.int .i64 n1)] w0 (fun e w' => e = .returned (.bool (s_ref05_name n1)) ∧ Pure w0 w') := pw_ref05_name n1 w0
def s_ref05_shape (aA aB : Int) (aC aE : Int) (aD : ByteArray) (aF aG : Int) : Int :=
 (cond (!(s_ref05_plain aA aB aC aE aD aF aG)) 53 (cond (((s_ref05_named aA) && (!((decide (aB ≥ 0)) && (decide (aB < 16))))) || (((aA == 8) || (aA == 9)) && ((!((decide (aC ≥ 0)) && (decide (aC < 16)))) || (aB == aC)))) 50 (cond (decide ((aD.size : Int) > 64)) 1 0)))
theorem pw_ref05_shape (aA aB : Int) (aC aE : Int) (aD : ByteArray) (aF aG : Int) (w0 : World) :
  Calls Try.prog 191 #[(.agg #[(vi aA), (vi aB), (vi aC), (vu aE), (vs aD), (vi aF), (vi aG)])] w0 (fun e w' => ∃ b'0 b'1 b'2 : Bool, ((!(s_ref05_plain aA aB aC aE aD aF aG)) = b'0 ∧ (((s_ref05_named aA) && (!((decide (aB ≥ 0)) && (decide (aB < 16))))) || (((aA == 8) || (aA == 9)) && ((!((decide (aC ≥ 0)) && (decide (aC < 16)))) || (aB == aC)))) = b'1 ∧ (decide ((aD.size : Int) > 64)) = b'2) ∧ (e = .returned (vi (cond b'0 53 (cond b'1 50 (cond b'2 1 0))))) ∧ Pure w0 w') := by
 refine calls_of_wpE (args := [(.agg #[(vi aA), (vi aB), (vi aC), (vu aE), (vs aD), (vi aF), (vi aG)])]) Try.func191 rfl Try.ntmps191 (Nat.le_of_ble_eq_true rfl) ?_
 have hs := Hst.start w0
 have hb := HB.nil None w0
 refine wpE_seq (rg (sn (O := (.cells #[(vi aA), (vi aB), (vi aC), (vu aE), (vs aD), (vi aF), (vi aG)] 93)) xb ?_))
 intro p1 w1 hn1
 obtain ⟨H1, hs, hb⟩ := hs.alloc hb hn1
 refine q0 (vi 0) (wpL_nil (th_n (wpE_seq (wpE_seq (rg (q2 (.agg #[(vi aA), (vi aB), (vi aC), (vu aE), (vs aD), (vi aF), (vi aG)]) (x_loadA (a := p1) (vs := [(vi aA), (vi aB), (vi aC), (vu aE), (vs aD), (vi aF), (vi aG)]) (by kernel_rfl) (Try.isAgg93 _) (Try.sizeOf93 _) rfl (hb.row0 0 7 gZ (by kernel_rfl))) ?_))))))
 refine st_call (want0 rfl) (xc Try.call222) ((p_ref05_plain aA aB aC aE aD aF aG w1).mono ?_)
 rintro e w2 ⟨he, hE⟩
 refine ⟨(vb (s_ref05_plain aA aB aC aE aD aF aG)), he.trans (by kernel_rfl), ?_⟩
 replace hs := hs.pure hE
 replace hb := hb.pure hE
 clear hE he
 refine q0 (vb (!(s_ref05_plain aA aB aC aE aD aF aG))) (wpL_nil (th_n ?_))
 refine wpE_cond (t := (!(s_ref05_plain aA aB aC aE aD aF aG))) (by kernel_rfl) (fun hc1 => ?_) (fun hc1 => ?_)
 ·skip
  refine wpE_seq (rg (q0 (vi 53) (wpL_nil (th_n (wpE_ret (th_r (res1 (.inl rfl) Try.results191 (v := (vi 53)) (by kernel_rfl) ?_)))))))
  exact ⟨true, _, _, ⟨hc1, rfl, rfl⟩, by kernel_rfl, (Ext.refl (F := None) _).hst hs⟩
 ·skip
  refine wpE_skip (th_n (wpE_seq (wpE_seq ?_)))
  refine wpE_via (fun ρ wJ => ∃ b5'0 : Bool, ∃ HJ : Nat → Prop, (((s_ref05_named aA) && (!((decide (aB ≥ 0)) && (decide (aB < 16))))) = b5'0) ∧ Hst w0 None w0 HJ wJ ∧ HB HJ wJ [(p1, [(vi aA), (vi aB), (vi aC), (vu aE), (vs aD), (vi aF), (vi aG)], 93)] ∧ Has ρ [(1, (vp (some p1))), (32, (vb (b5'0 || (((aA == 8) || (aA == 9)) && ((!((decide (aC ≥ 0)) && (decide (aC < 16)))) || (aB == aC))))))]) ?_ ?_
  ·skip
   refine rg (q0 (vp (some p1)) (q2 (vi aA) (xl (Try.isAgg3 _) (hb.c0 0 gZ)) ?_))
   refine st_call (want0 rfl) (xc Try.call223) ((p_ref05_named aA w2).mono ?_)
   rintro e w14 ⟨he, hE⟩
   refine ⟨(vb (s_ref05_named aA)), he.trans (by kernel_rfl), ?_⟩
   replace hs := hs.pure hE
   replace hb := hb.pure hE
   clear hE he
   refine q0 (vb (s_ref05_named aA)) ?_
   refine wpL_join 5 (fun ρ wJ => ∃ b6'0 : Bool, ∃ HJ : Nat → Prop, ((s_ref05_named aA) = b6'0) ∧ Hst w0 None w0 HJ wJ ∧ HB HJ wJ [(p1, [(vi aA), (vi aB), (vi aC), (vu aE), (vs aD), (vi aF), (vi aG)], 93)] ∧ Has ρ [(1, (vp (some p1))), (14, (vb (b6'0 && (!((decide (aB ≥ 0)) && (decide (aB < 16)))))))]) ?_ ?_
   ·clear hs hb
    rintro ρ w16 ⟨b6'0, H7, he0, hs, hb, hH⟩
    subst he0
    refine wpL_has hH ?_
    clear hH
    refine q0 (vb ((s_ref05_named aA) && (!((decide (aB ≥ 0)) && (decide (aB < 16)))))) ?_
    rcases Bool.eq_false_or_eq_true ((s_ref05_named aA) && (!((decide (aB ≥ 0)) && (decide (aB < 16))))) with hg12 | hg12
    ·skip
     refine sk (yD 15 hg12) (sk (yD 15 hg12) (sk (yD 15 hg12) (sk (yD 15 hg12) (st_not (by kernel_rfl) (st_not (by kernel_rfl) (st_not (by kernel_rfl) (st_not (by kernel_rfl) (st_not (by kernel_rfl) (st_not (by kernel_rfl) (st_not (by kernel_rfl) (st_not (by kernel_rfl) ?_)))))))))))
     refine st_not (by kernel_rfl) (st_not (by kernel_rfl) (st_not (by kernel_rfl) (sk (yD 15 hg12) (q2 (vb true) (xT hg12) (wpL_nil (th_n ?_))))))
     exact ⟨true, _, hg12, hs, hb, Has.mk (by kernel_rfl)⟩
    ·skip
     refine q1 (vp (some p1)) (want1 rfl (yD 15 hg12)) (stp (v := (vi aA)) (want1 rfl (yD 15 hg12)) (xl (Try.isAgg3 _) (hb.c0 0 gZ)) ?_)
     refine st_call (want1 rfl (yD 15 hg12)) (xc Try.call225) ((p_ref05_two aA w16).mono ?_)
     rintro e w18 ⟨he, hE⟩
     refine ⟨(vb ((aA == 8) || (aA == 9))), he.trans (by kernel_rfl), ?_⟩
     replace hs := hs.pure hE
     replace hb := hb.pure hE
     clear hE he
     refine q1 (vb ((aA == 8) || (aA == 9))) (want1 rfl (yD 15 hg12)) ?_
     refine wpL_join 12 (fun ρ wJ => ∃ b8'0 : Bool, ∃ HJ : Nat → Prop, (((aA == 8) || (aA == 9)) = b8'0) ∧ Hst w0 None w0 HJ wJ ∧ HB HJ wJ [(p1, [(vi aA), (vi aB), (vi aC), (vu aE), (vs aD), (vi aF), (vi aG)], 93)] ∧ Has ρ [(1, (vp (some p1))), (15, (vb ((s_ref05_named aA) && (!((decide (aB ≥ 0)) && (decide (aB < 16))))))), (31, (vb (b8'0 && ((!((decide (aC ≥ 0)) && (decide (aC < 16)))) || (aB == aC)))))]) ?_ ?_
     ·clear hs hb
      rintro ρ w21 ⟨b8'0, H9, he0, hs, hb, hH⟩
      subst he0
      refine wpL_has hH ?_
      clear hH
      refine q2 (vb (((aA == 8) || (aA == 9)) && ((!((decide (aC ≥ 0)) && (decide (aC < 16)))) || (aB == aC)))) (xF hg12) (wpL_nil (th_n ?_))
      exact ⟨false, _, hg12, hs, hb, Has.mk (by kernel_rfl)⟩
     ·skip
      rcases Bool.eq_false_or_eq_true ((aA == 8) || (aA == 9)) with hg16 | hg16
      ·skip
       refine q1 (vp (some (p1.add 2))) (want1 rfl (yD 19 hg16)) (stp (v := (vi aC)) (want1 rfl (yD 19 hg16)) (xl (Try.isAgg3 _) (hb.c 0 2 gZ)) ?_)
       refine st_call (want1 rfl (yD 19 hg16)) (xc Try.call224) ((p_ref05_name aC w18).mono ?_)
       rintro e w22 ⟨he, hE⟩
       refine ⟨(vb ((decide (aC ≥ 0)) && (decide (aC < 16)))), he.trans (by kernel_rfl), ?_⟩
       replace hs := hs.pure hE
       replace hb := hb.pure hE
       clear hE he
       refine q1 (vb (!((decide (aC ≥ 0)) && (decide (aC < 16))))) (want1 rfl (yD 19 hg16)) (q1 (vb (!((decide (aC ≥ 0)) && (decide (aC < 16))))) (want1 rfl (yD 19 hg16)) ?_)
       refine wpL_join 6 (fun ρ wJ => ∃ b9'0 : Bool, ∃ HJ : Nat → Prop, ((!((decide (aC ≥ 0)) && (decide (aC < 16)))) = b9'0) ∧ Hst w0 None w0 HJ wJ ∧ HB HJ wJ [(p1, [(vi aA), (vi aB), (vi aC), (vu aE), (vs aD), (vi aF), (vi aG)], 93)] ∧ Has ρ [(1, (vp (some p1))), (15, (vb ((s_ref05_named aA) && (!((decide (aB ≥ 0)) && (decide (aB < 16))))))), (19, (vb ((aA == 8) || (aA == 9)))), (30, (vb (b9'0 || (aB == aC))))]) ?_ ?_
       ·clear hs hb
        rintro ρ w23 ⟨b9'0, H10, he0, hs, hb, hH⟩
        subst he0
        refine wpL_has hH ?_
        clear hH
        refine stp (v := (vb ((!((decide (aC ≥ 0)) && (decide (aC < 16)))) || (aB == aC)))) (want1 rfl (yD 15 hg12)) (xT hg16) (wpL_nil ?_)
        exact ⟨true, _, hg16, hs, hb, Has.mk (by kernel_rfl)⟩
       ·skip
        rcases Bool.eq_false_or_eq_true (!((decide (aC ≥ 0)) && (decide (aC < 16)))) with hg18 | hg18
        ·skip
         refine sk (yD 24 hg18) (sk (yD 24 hg18) (sk (yD 24 hg18) (sk (yD 24 hg18) (sk (yD 24 hg18) (stp (v := (vb true)) (want1 rfl (yD 19 hg16)) (xT hg18) (wpL_nil ?_))))))
         exact ⟨true, _, hg18, hs, hb, Has.mk (by kernel_rfl)⟩
        ·skip
         refine q1 (vp (some (p1.add 1))) (want1 rfl (yD 24 hg18)) (stp (v := (vi aB)) (want1 rfl (yD 24 hg18)) (xl (Try.isAgg3 _) (hb.c 0 1 gZ)) (q1 (vp (some (p1.add 2))) (want1 rfl (yD 24 hg18)) (stp (v := (vi aC)) (want1 rfl (yD 24 hg18)) (xl (Try.isAgg3 _) (hb.c 0 2 gZ)) (q1 (vb (aB == aC)) (want1 rfl (yD 24 hg18)) (stp (v := (vb (aB == aC))) (want1 rfl (yD 19 hg16)) (xF hg18) (wpL_nil ?_))))))
         exact ⟨false, _, hg18, hs, hb, Has.mk (by kernel_rfl)⟩
      ·skip
       refine sk (yD 19 hg16) (sk (yD 19 hg16) (sk (yD 19 hg16) (sk (yD 19 hg16) (sk (yD 19 hg16) (st_not (by kernel_rfl) (st_not (by kernel_rfl) (st_not (by kernel_rfl) (st_not (by kernel_rfl) (st_not (by kernel_rfl) (sk (yD 19 hg16) (stp (v := (vb false)) (want1 rfl (yD 15 hg12)) (xF hg16) ?_)))))))))))
       refine wpL_nil ?_
       exact ⟨false, _, hg16, hs, hb, Has.mk (by kernel_rfl)⟩
   ·skip
    rcases Bool.eq_false_or_eq_true (s_ref05_named aA) with hg11 | hg11
    ·skip
     refine q1 (vp (some (p1.add 1))) (want1 rfl (yD 9 hg11)) (stp (v := (vi aB)) (want1 rfl (yD 9 hg11)) (xl (Try.isAgg3 _) (hb.c 0 1 gZ)) ?_)
     refine st_call (want1 rfl (yD 9 hg11)) (xc Try.call224) ((p_ref05_name aB w14).mono ?_)
     rintro e w17 ⟨he, hE⟩
     refine ⟨(vb ((decide (aB ≥ 0)) && (decide (aB < 16)))), he.trans (by kernel_rfl), ?_⟩
     replace hs := hs.pure hE
     replace hb := hb.pure hE
     clear hE he
     refine q1 (vb (!((decide (aB ≥ 0)) && (decide (aB < 16))))) (want1 rfl (yD 9 hg11)) (q2 (vb (!((decide (aB ≥ 0)) && (decide (aB < 16))))) (xT hg11) (wpL_nil ?_))
     exact ⟨true, _, hg11, hs, hb, Has.mk (by kernel_rfl)⟩
    ·skip
     refine sk (yD 9 hg11) (sk (yD 9 hg11) (sk (yD 9 hg11) (sk (yD 9 hg11) (q2 (vb false) (xF hg11) (wpL_nil ?_)))))
     exact ⟨false, _, hg11, hs, hb, Has.mk (by kernel_rfl)⟩
  ·clear hs hb
   rintro ρ w13 ⟨b5'0, H6, he0, hs, hb, hH⟩
   subst he0
   refine norm_has hH ?_
   clear hH
   refine th_n ?_
   refine wpE_cond (t := (((s_ref05_named aA) && (!((decide (aB ≥ 0)) && (decide (aB < 16))))) || (((aA == 8) || (aA == 9)) && ((!((decide (aC ≥ 0)) && (decide (aC < 16)))) || (aB == aC))))) (by kernel_rfl) (fun hc2 => ?_) (fun hc2 => ?_)
   ·skip
    refine wpE_seq (rg (q0 (vi 50) (wpL_nil (th_n (wpE_ret (th_r (res1 (.inl rfl) Try.results191 (v := (vi 50)) (by kernel_rfl) ?_)))))))
    exact ⟨false, true, _, ⟨hc1, hc2, rfl⟩, by kernel_rfl, (Ext.refl (F := None) _).hst hs⟩
   ·skip
    refine wpE_skip (th_n (wpE_seq (wpE_seq (rg (q0 (vp (some (p1.add 4))) (q2 (vs aD) (xl (Try.isAgg9 _) (hb.c 0 4 gZ)) (q0 (vi (aD.size : Int)) (q0 (vb (decide ((aD.size : Int) > 64))) (wpL_nil (th_n ?_))))))))))
    refine wpE_cond (t := (decide ((aD.size : Int) > 64))) (by kernel_rfl) (fun hc3 => ?_) (fun hc3 => ?_)
    ·skip
     refine wpE_seq (rg (q0 (vi 1) (wpL_nil (th_n (wpE_ret (th_r (res1 (.inl rfl) Try.results191 (v := (vi 1)) (by kernel_rfl) ?_)))))))
     exact ⟨false, false, true, ⟨hc1, hc2, hc3⟩, by kernel_rfl, (Ext.refl (F := None) _).hst hs⟩
    ·skip
     refine wpE_skip (th_n (wpE_seq (rg (q0 (vi 0) (wpL_nil (th_n (wpE_ret (res1 (.inl rfl) Try.results191 (v := (vi 0)) (by kernel_rfl) ?_))))))))
     exact ⟨false, false, false, ⟨hc1, hc2, hc3⟩, by kernel_rfl, (Ext.refl (F := None) _).hst hs⟩
theorem p_ref05_shape (aA aB : Int) (aC aE : Int) (aD : ByteArray) (aF aG : Int) (w0 : World) : Calls Try.prog 191 #[(.agg #[(.int .i64 aA), (.int .i64 aB), (.int .i64 aC), (.int .u64 aE), (.string aD), (.int .i64 aF), (.int .i64 aG)])] w0 (fun e w' => e = .returned (.int .i64 (s_ref05_shape aA aB aC aE aD aF aG)) ∧ Pure w0 w') := by
 refine (pw_ref05_shape aA aB aC aE aD aF aG w0).mono ?_
 rintro e w' ⟨b'0, b'1, b'2, ⟨e0, e1, e2⟩, h, E⟩
 subst e0
 subst e1
 subst e2
 exact ⟨h, E⟩
def m_ref05_looked_l2 (aH : Sl) (deep1 : Int) (seen1 : Option Addr) (e1 i1 : Int) (w0 : World) (Hl1 : Nat → Prop) (wl1 : World) (Kc2 : Int → Int → (Nat → Prop) → World → Prop) (K : Int → World → Prop) : Prop :=
 Br ((e1 == 0) && (decide (i1 < (aH.len : Int))))
  (∃ a3 : Addr, At aH i1 6 a3 ∧
  ∀ (H4 : Nat → Prop) (w11 : World), Hst w0 Hl1 wl1 H4 w11 →
  ∃ aN aO : Int, ∃ aP aQ : Int, ∃ aR : ByteArray, ∃ bC : Sl, Row w11 a3 [(vi aN), (vi aO), (vi aP), (vu aQ), (vs aR), bC.v] ∧
  Calls Try.prog 159 #[(.agg #[(vi aN), (vi aO), (vi aP), (vu aQ), (vs aR), bC.v]), (vi (IntKind.i64.wrap (deep1 + 1))), (vp seen1)] w11 (fun e w12 => ∃ r1 : Int, e = .returned (vi r1) ∧ 
   Kept H4 w11 w12 ∧
   Kc2 r1 (IntKind.i64.wrap (i1 + 1)) H4 w12))
  (∀ (H4 : Nat → Prop) (w11 : World), Hst w0 Hl1 wl1 H4 w11 →
  K e1 w11)
def m_ref05_looked_j1 (aI aJ : Int) (aK aL : Int) (aM : ByteArray) (aH : Sl) (deep1 : Int) (seen1 : Option Addr) (x1 : Bool) (w0 : World) (H : Nat → Prop) (w : World) (K : Int → World → Prop) : Prop :=
 Br x1
  (K 52 w)
  (∃ a1 : Addr, seen1 = some a1 ∧
  ∃ v1 : Int, w.cell? a1 = some (vi v1) ∧
  ∃ a2 : Addr, seen1 = some a2 ∧
  CanW w a2 ∧ ¬ H a2.block ∧ ∀ w2 : World, w2 = w.setCell a2 (vi (IntKind.i64.wrap (v1 + 1))) →
  ∀ y1 : Bool, y1 = ((((s_ref05_shape aI aJ aK aL aM 0 0) : Int) != 53) && (((aH.len : Int) : Int) != (s_ref05_Kids aI))) →
  ∀ (H3 : Nat → Prop) (w10 : World), Hst w0 H w2 H3 w10 →
  ∃ (I1 : Int → Int → (Nat → Prop) → World → Prop) (mu1 : Int → Int → World → Nat), I1 (cond y1 53 (s_ref05_shape aI aJ aK aL aM 0 0)) 0 H3 w10 ∧
   ∀ (e1 i1 : Int) (Hl1 : Nat → Prop) (wl1 : World), Hst w0 Hl1 wl1 Hl1 wl1 → I1 e1 i1 Hl1 wl1 → m_ref05_looked_l2 aH deep1 seen1 e1 i1 w0 Hl1 wl1 (fun y'0 y'1 H' w' => I1 y'0 y'1 H' w' ∧ mu1 y'0 y'1 w' < mu1 e1 i1 wl1) K)
def m_ref05_looked (aI aJ : Int) (aK aL : Int) (aM : ByteArray) (aH : Sl) (deep1 : Int) (seen1 : Option Addr) (w0 : World) (K : Int → World → Prop) : Prop :=
 ∃ a4 : Addr, seen1 = some a4 ∧
 ∀ (H1 : Nat → Prop) (w1 : World), Hst w0 None w0 H1 w1 →
 ∃ v2 : Int, w1.cell? a4 = some (vi v2) ∧
 ∀ (H5 : Nat → Prop) (w13 : World), Hst w0 H1 w1 H5 w13 →
 m_ref05_looked_j1 aI aJ aK aL aM aH deep1 seen1 ((decide (v2 ≥ 4096)) || (decide (deep1 ≥ 64))) w0 H5 w13 K
theorem w_ref05_looked (aI aJ : Int) (aK aL : Int) (aM : ByteArray) (aH : Sl) (deep1 : Int) (seen1 : Option Addr) (w0 : World) (K : Int → World → Prop) (h : m_ref05_looked aI aJ aK aL aM aH deep1 seen1 w0 K) :
  Calls Try.prog 159 #[(.agg #[(vi aI), (vi aJ), (vi aK), (vu aL), (vs aM), aH.v]), (vi deep1), (vp seen1)] w0 (fun e w' => ∃ r2 : Int, e = .returned (vi r2) ∧ K r2 w') := by
 unfold m_ref05_looked at h
 refine calls_of_wpE (args := [(.agg #[(vi aI), (vi aJ), (vi aK), (vu aL), (vs aM), aH.v]), (vi deep1), (vp seen1)]) Try.func159 rfl Try.ntmps159 (Nat.le_of_ble_eq_true rfl) ?_
 have hs := Hst.start w0
 have hb := HB.nil None w0
 refine wpE_seq (rg (sn (O := (.cells #[(vi aI), (vi aJ), (vi aK), (vu aL), (vs aM), aH.v] 116)) xb ?_))
 intro p1 w1 hn1
 obtain ⟨H1, hs, hb⟩ := hs.alloc hb hn1
 refine q0 (vi 0) (wpL_nil (th_n (wpE_seq (wpE_seq ?_))))
 refine wpE_joinT (fun ρ w => ∃ x1 : Bool, ∃ H : Nat → Prop, Has ρ [(1, (vi deep1)), (2, (vp seen1)), (3, (vp (some p1))), (16, (vb x1))] ∧ Hst w0 H w H w ∧ HB H w [(p1, [(vi aI), (vi aJ), (vi aK), (vu aL), (vs aM), aH.v], 116)] ∧ m_ref05_looked_j1 aI aJ aK aL aM aH deep1 seen1 x1 w0 H w K) ?_ ?_
 ·clear h hs hb
  rintro ρ w ⟨x1, H, hH, hs, hb, h⟩
  unfold m_ref05_looked_j1 at h
  refine wpE_has hH ?_
  clear hH
  refine wpE_cond (t := x1) (by kernel_rfl) (fun hc1 => ?_) (fun hc1 => ?_)
  ·replace h := h.1 hc1
   refine wpE_seq (rg (q0 (vi 52) (wpL_nil (th_n (wpE_ret (th_r (res1 (.inl rfl) Try.results159 (v := (vi 52)) (by kernel_rfl) ?_)))))))
   exact ⟨52, rfl, h⟩
  ·replace h := h.2 hc1
   refine wpE_skip (th_n (wpE_seq (rg (q0 (vp seen1) (q0 (vp seen1) ?_)))))
   obtain ⟨a1, hp1, h⟩ := h
   refine q2 (vp (some a1)) (x_nilCheck (p := seen1) (by kernel_rfl) hp1) ?_
   obtain ⟨v1, hv3, h⟩ := h
   refine q2 (vi v1) (xl (Try.isAgg3 _) hv3) (q0 (vi (IntKind.i64.wrap (v1 + 1))) ?_)
   obtain ⟨a2, hp2, h⟩ := h
   refine q2 (vp (some a2)) (x_nilCheck (p := seen1) (by kernel_rfl) hp2) ?_
   obtain ⟨hp3, hnh, h⟩ := h
   refine st_set (want0 rfl) (x_store (a := a2) (v := (vi (IntKind.i64.wrap (v1 + 1)))) (by kernel_rfl) (by kernel_rfl) rfl (Try.sizeOf3 _) hp3) ?_
   intro w2 hn2
   replace h := h w2 hn2
   have hk : Kept H w w2 := by rw [hn2]; exact Kept.setCell hnh
   replace hs := hs.again hk
   replace hb := hb.kept hk
   clear hk hnh
   refine wpL_nil (th_n (wpE_seq (rg (q2 (.agg #[(vi aI), (vi aJ), (vi aK), (vu aL), (vs aM), aH.v]) (x_loadA (a := p1) (vs := [(vi aI), (vi aJ), (vi aK), (vu aL), (vs aM), aH.v]) (by kernel_rfl) (Try.isAgg116 _) (Try.sizeOf116 _) rfl (hb.row0 0 6 gZ (by kernel_rfl))) ?_))))
   refine st_call (want0 rfl) (xc Try.call160) ((p_ref05_node aI aJ aK aL aM aH w2).mono ?_)
   rintro e w3 ⟨he, hE⟩
   refine ⟨(.agg #[(vi aI), (vi aJ), (vi aK), (vu aL), (vs aM), (vi 0), (vi 0)]), he.trans (by kernel_rfl), ?_⟩
   replace hs := hs.pure hE
   replace hb := hb.pure hE
   clear hE he
   refine st_call (want0 rfl) (xc Try.call191) ((p_ref05_shape aI aJ aK aL aM 0 0 w3).mono ?_)
   rintro e w4 ⟨he, hE⟩
   refine ⟨(vi (s_ref05_shape aI aJ aK aL aM 0 0)), he.trans (by kernel_rfl), ?_⟩
   replace hs := hs.pure hE
   replace hb := hb.pure hE
   clear hE he
   refine q0 (vi (s_ref05_shape aI aJ aK aL aM 0 0)) (wpL_nil (th_n (wpE_seq (wpE_seq ?_))))
   refine wpE_via (fun ρ wJ => ∃ b1'0 y1 : Bool, ∃ HJ : Nat → Prop, ((((s_ref05_shape aI aJ aK aL aM 0 0) : Int) != 53) = b1'0) ∧ (y1 = (b1'0 && (((aH.len : Int) : Int) != (s_ref05_Kids aI)))) ∧ Hst w0 H w2 HJ wJ ∧ HB HJ wJ [(p1, [(vi aI), (vi aJ), (vi aK), (vu aL), (vs aM), aH.v], 116)] ∧ Has ρ [(1, (vi deep1)), (2, (vp seen1)), (3, (vp (some p1))), (7, (vi (s_ref05_shape aI aJ aK aL aM 0 0))), (36, (vb y1))]) ?_ ?_
   ·skip
    refine wpE_drawnC (fun x => ∃ H', Hst w0 H w2 H' x ∧ HB H' x [(p1, [(vi aI), (vi aJ), (vi aK), (vu aL), (vs aM), aH.v], 116)]) [8] [] (by kernel_rfl) (by kernel_rfl) (by kernel_rfl) (by kernel_rfl) ⟨_, hs.drew, hb.drew⟩ ?_
    intro w8 hw8
    replace hs : Hst w0 H w2 H w8 := by rw [hw8]; exact hs.drew
    replace hb : HB H w8 [(p1, [(vi aI), (vi aJ), (vi aK), (vu aL), (vs aM), aH.v], 116)] := by rw [hw8]; exact hb.drew
    clear hw8
    refine qx 0 (vi (s_ref05_shape aI aJ aK aL aM 0 0)) Kp0 (qx 1 (vb (((s_ref05_shape aI aJ aK aL aM 0 0) : Int) != 53)) Kp1 (qx 2 (vb (((s_ref05_shape aI aJ aK aL aM 0 0) : Int) != 53)) Kp2 (qgo (k := 3) (by kernel_rfl) ?_)))
    rcases Bool.eq_false_or_eq_true (((s_ref05_shape aI aJ aK aL aM 0 0) : Int) != 53) with hg2 | hg2
    ·skip
     refine sx (v := (vp (some (p1.add 5)))) Kp3 (want1 rfl (yD 28 hg2)) (by kernel_rfl) (fun w' hw' => (by kernel_rfl)) (qgo (k := 4) (by kernel_rfl) (sx (v := aH.v) Kp4 (want1 rfl (yD 28 hg2)) (by kernel_rfl) (fun w' hw' => (by obtain ⟨H', hs', hb'⟩ := hw'; exact (xl (Try.isAgg22 _) (hb'.cell 0 5 gZ (by kernel_rfl))))) (qw 5 (vi (aH.len : Int)) Kp5 (want1 rfl (yD 28 hg2)) (qw 6 (vp (some p1)) Kp6 (want1 rfl (yD 28 hg2)) (qgo (k := 7) (by kernel_rfl) (sx (v := (vi aI)) Kp7 (want1 rfl (yD 28 hg2)) (by kernel_rfl) (fun w' hw' => (by obtain ⟨H', hs', hb'⟩ := hw'; exact (xl (Try.isAgg3 _) (hb'.cell0 0 gZ (by kernel_rfl))))) (lgo (k := 8) (by kernel_rfl) ?_)))))))
     refine sl_call Kp8 (want1 rfl (yD 28 hg2)) (by kernel_rfl) (xc Try.call107) ((p_ref05_Kids aI w8).mono ?_)
     rintro e w9 ⟨he, hE⟩
     replace hs := hs.pure hE
     replace hb := hb.pure hE
     refine ⟨(vi (s_ref05_Kids aI)), he.trans (by kernel_rfl), .inr ⟨_, hs, hb⟩, ?_⟩
     clear hE he
     refine qw 9 (vb (((aH.len : Int) : Int) != (s_ref05_Kids aI))) Kp9 (want1 rfl (yD 28 hg2)) (qz 10 (vb (((aH.len : Int) : Int) != (s_ref05_Kids aI))) (pickA (S8 (pickS (pickS pickZ)))) (fun w' hw' => (xT hg2)) (wpX_nil (by kernel_rfl) (th_n ?_)))
     exact ⟨true, _, _, hg2, rfl, hs, hb, Has.mk (by kernel_rfl)⟩
    ·skip
     refine sx_not Kp3 (unwant rfl (yD 28 hg2) rfl) (qn 4 Kp4 (unwant rfl (yD 28 hg2) rfl) (qn 5 Kp5 (unwant rfl (yD 28 hg2) rfl) (qn 6 Kp6 (unwant rfl (yD 28 hg2) rfl) (qn 7 Kp7 (unwant rfl (yD 28 hg2) rfl) (lgo (k := 8) (by kernel_rfl) (sx_not Kp8 (unwant rfl (yD 28 hg2) rfl) (qn 9 Kp9 (unwant rfl (yD 28 hg2) rfl) (qz 10 (vb false) (pickA (S8 (pickS (pickS pickZ)))) (fun w' hw' => (xF hg2)) (wpX_nil (by kernel_rfl) (th_n ?_))))))))))
     exact ⟨false, _, _, hg2, rfl, hs, hb, Has.mk (by kernel_rfl)⟩
   ·clear hs hb
    rintro ρ w7 ⟨b1'0, y1, H2, he0, hy1, hs, hb, hH⟩
    subst he0
    replace h := h y1 hy1
    refine norm_has hH ?_
    clear hH
    refine th_n ?_
    refine wpE_via (fun ρ wJ => ∃ b2'0 : Bool, ∃ HJ : Nat → Prop, (y1 = b2'0) ∧ Hst w0 H w2 HJ wJ ∧ HB HJ wJ [(p1, [(vi aI), (vi aJ), (vi aK), (vu aL), (vs aM), aH.v], 116)] ∧ Has ρ [(1, (vi deep1)), (2, (vp seen1)), (3, (vp (some p1))), (7, (vi (cond b2'0 53 (s_ref05_shape aI aJ aK aL aM 0 0))))]) ?_ ?_
    ·skip
     refine wpE_cond (t := y1) (by kernel_rfl) (fun hc3 => ?_) (fun hc3 => ?_)
     ·skip
      refine rg (q0 (vi 53) (wpL_nil (th_n ?_)))
      exact ⟨true, _, hc3, hs, hb, Has.mk (by kernel_rfl)⟩
     ·skip
      refine wpE_skip (th_n ?_)
      exact ⟨false, _, hc3, hs, hb, Has.mk (by kernel_rfl)⟩
    ·clear hs hb
     rintro ρ w10 ⟨b2'0, H3, he0, hs, hb, hH⟩
     subst he0
     refine norm_has hH ?_
     clear hH
     refine th_n (wpE_seq (wpE_seq (rg (q0 (vi 0) (wpL_nil (th_n (wpE_block ?_)))))))
     replace h := h H3 w10 hs
     replace hs := hs.here
     obtain ⟨I1, mu1, h0, hr⟩ := h
     refine wpE_loop (σ := Int × Int × (Nat → Prop) × World) (fun s ρ w => w = s.2.2.2 ∧ Has ρ [(1, (vi deep1)), (2, (vp seen1)), (3, (vp (some p1))), (7, (vi s.1)), (8, (vi s.2.1))] ∧ Hst w0 s.2.2.1 w s.2.2.1 w ∧ HB s.2.2.1 w [(p1, [(vi aI), (vi aJ), (vi aK), (vu aL), (vs aM), aH.v], 116)] ∧ I1 s.1 s.2.1 s.2.2.1 s.2.2.2) (fun s => mu1 s.1 s.2.1 s.2.2.2) ((cond y1 53 (s_ref05_shape aI aJ aK aL aM 0 0)), 0, H3, w10) ⟨rfl, Has.mk (by kernel_rfl), hs, hb, h0⟩ ?_
     clear hs hb
     rintro ⟨e1, i1, Hl1, wl1⟩ ρ w ⟨hw, hH, hs, hb, hI⟩
     obtain rfl : wl1 = w := (show w = wl1 from hw).symm
     replace hH : Has ρ [(1, (vi deep1)), (2, (vp seen1)), (3, (vp (some p1))), (7, (vi e1)), (8, (vi i1))] := hH
     replace hs : Hst w0 Hl1 wl1 Hl1 wl1 := hs
     replace hb : HB Hl1 wl1 [(p1, [(vi aI), (vi aJ), (vi aK), (vu aL), (vs aM), aH.v], 116)] := hb
     have h := hr e1 i1 Hl1 wl1 hs hI
     clear hr h0
     unfold m_ref05_looked_l2 at h
     refine wpE_has hH ?_
     clear hH hI
     refine wpE_seq (wpE_seq ?_)
     refine wpE_via (fun ρ wJ => ∃ b3'0 : Bool, ∃ HJ : Nat → Prop, ((e1 == 0) = b3'0) ∧ Hst w0 Hl1 wl1 HJ wJ ∧ HB HJ wJ [(p1, [(vi aI), (vi aJ), (vi aK), (vu aL), (vs aM), aH.v], 116)] ∧ Has ρ [(1, (vi deep1)), (2, (vp seen1)), (3, (vp (some p1))), (7, (vi e1)), (8, (vi i1)), (45, (vb (b3'0 && (decide (i1 < (aH.len : Int))))))]) ?_ ?_
     ·skip
      refine rg (q0 (vi e1) (q0 (vb (e1 == 0)) (q0 (vb (e1 == 0)) ?_)))
      rcases Bool.eq_false_or_eq_true (e1 == 0) with hg4 | hg4
      ·skip
       refine q1 (vi i1) (want1 rfl (yD 39 hg4)) (q1 (vp (some (p1.add 5))) (want1 rfl (yD 39 hg4)) (stp (v := aH.v) (want1 rfl (yD 39 hg4)) (xl (Try.isAgg22 _) (hb.c 0 5 gZ)) (q1 (vi (aH.len : Int)) (want1 rfl (yD 39 hg4)) (q1 (vb (decide (i1 < (aH.len : Int)))) (want1 rfl (yD 39 hg4)) (q2 (vb (decide (i1 < (aH.len : Int)))) (xT hg4) (wpL_nil (th_n ?_)))))))
       exact ⟨true, _, hg4, hs, hb, Has.mk (by kernel_rfl)⟩
      ·skip
       refine sk (yD 39 hg4) (sk (yD 39 hg4) (sk (yD 39 hg4) (sk (yD 39 hg4) (sk (yD 39 hg4) (q2 (vb false) (xF hg4) (wpL_nil (th_n ?_)))))))
       exact ⟨false, _, hg4, hs, hb, Has.mk (by kernel_rfl)⟩
     ·clear hs hb
      rintro ρ w11 ⟨b3'0, H4, he0, hs, hb, hH⟩
      subst he0
      refine norm_has hH ?_
      clear hH
      refine th_n ?_
      refine wpE_cond (t := ((e1 == 0) && (decide (i1 < (aH.len : Int))))) (by kernel_rfl) (fun hc4 => ?_) (fun hc4 => ?_)
      ·replace h := h.1 hc4
       refine wpE_skip (th_n (wpE_seq (wpE_block (rg (q0 (vp (some (p1.add 5))) (q2 aH.v (xl (Try.isAgg22 _) (hb.c 0 5 gZ)) (q0 (vi i1) ?_)))))))
       obtain ⟨a3, hv2, h⟩ := h
       refine q2 (vp (some a3)) (x_indexAddr (s := aH) (k := .i64) (i := i1) (by kernel_rfl) (by kernel_rfl) (Try.runUnderlying22 _) (Try.sizeOf116 _) hv2) ?_
       replace h := h H4 w11 hs
       replace hs := hs.here
       obtain ⟨aN, aO, aP, aQ, aR, bC, hv1, h⟩ := h
       refine q2 (.agg #[(vi aN), (vi aO), (vi aP), (vu aQ), (vs aR), bC.v]) (x_loadA (a := a3) (vs := [(vi aN), (vi aO), (vi aP), (vu aQ), (vs aR), bC.v]) (by kernel_rfl) (Try.isAgg116 _) (Try.sizeOf116 _) rfl hv1) (q0 (vi deep1) (q0 (vi (IntKind.i64.wrap (deep1 + 1))) (q0 (vp seen1) ?_)))
       refine st_call (want0 rfl) (xc Try.call159) (h.mono ?_)
       rintro e w12 ⟨r1, rfl, hk, h⟩
       refine ⟨_, rfl, ?_⟩
       obtain ⟨hs, hb⟩ := hk.hh hs hb
       refine q0 (vi r1) (wpL_nil (bl_n (th_n (rg (q0 (vi i1) (q0 (vi (IntKind.i64.wrap (i1 + 1))) (q0 (vi (IntKind.i64.wrap (i1 + 1))) (wpL_nil (th_n ?_)))))))))
       exact ⟨(r1, (IntKind.i64.wrap (i1 + 1)), H4, w12), ⟨rfl, Has.mk (by kernel_rfl), hs, hb, h.1⟩, h.2⟩
      ·replace h := h.2 hc4
       refine wpE_exit (th_x (th_x (bl_eq (th_n (wpE_seq (rg (q0 (vi e1) (q0 (vi e1) (wpL_nil (th_n (wpE_ret ?_)))))))))))
       replace h := h H4 w11 hs
       replace hs := hs.here
       refine res1 (.inl rfl) Try.results159 (v := (vi e1)) (by kernel_rfl) ?_
       exact ⟨e1, rfl, h⟩
 ·skip
  refine rg (q0 (vp seen1) ?_)
  obtain ⟨a4, hp4, h⟩ := h
  refine q2 (vp (some a4)) (x_nilCheck (p := seen1) (by kernel_rfl) hp4) ?_
  replace h := h H1 w1 hs
  replace hs := hs.here
  obtain ⟨v2, hv4, h⟩ := h
  refine q2 (vi v2) (xl (Try.isAgg3 _) hv4) (q0 (vb (decide (v2 ≥ 4096))) (q0 (vb (decide (v2 ≥ 4096))) ?_))
  refine wpL_join 3 (fun ρ wJ => ∃ b4'0 : Bool, ∃ HJ : Nat → Prop, ((decide (v2 ≥ 4096)) = b4'0) ∧ Hst w0 H1 w1 HJ wJ ∧ HB HJ wJ [(p1, [(vi aI), (vi aJ), (vi aK), (vu aL), (vs aM), aH.v], 116)] ∧ Has ρ [(1, (vi deep1)), (2, (vp seen1)), (3, (vp (some p1))), (16, (vb (b4'0 || (decide (deep1 ≥ 64)))))]) ?_ ?_
  ·clear hs hb
   rintro ρ w13 ⟨b4'0, H5, he0, hs, hb, hH⟩
   subst he0
   refine wpL_has hH ?_
   clear hH
   refine wpL_nil ?_
   replace h := h H5 w13 hs
   replace hs := hs.here
   refine th_n ?_
   exact ⟨((decide (v2 ≥ 4096)) || (decide (deep1 ≥ 64))), H5, Has.mk (by kernel_rfl), hs, hb, h⟩
  ·skip
   rcases Bool.eq_false_or_eq_true (decide (v2 ≥ 4096)) with hg6 | hg6
   ·skip
    refine sk (yD 13 hg6) (sk (yD 13 hg6) (q2 (vb true) (xT hg6) (wpL_nil ?_)))
    exact ⟨true, _, hg6, hs, hb, Has.mk (by kernel_rfl)⟩
   ·skip
    refine q1 (vi deep1) (want1 rfl (yD 13 hg6)) (q1 (vb (decide (deep1 ≥ 64))) (want1 rfl (yD 13 hg6)) (q2 (vb (decide (deep1 ≥ 64))) (xF hg6) (wpL_nil ?_)))
    exact ⟨false, _, hg6, hs, hb, Has.mk (by kernel_rfl)⟩
def m_ref05_Looks (aI aJ : Int) (aK aL : Int) (aM : ByteArray) (aH : Sl) (w0 : World) (K : Int → World → Prop) : Prop :=
 ∀ (H1 : Nat → Prop) (w1 : World), Hst w0 None w0 H1 w1 →
 ∀ (p2 : Addr) (w2 : World), New w1 (.cells #[(vi 0)] 3) p2 w2 →
 CanW w2 p2 ∧ ¬ H1 p2.block ∧ ∀ w3 : World, w3 = w2.setCell p2 (vi 0) →
 Calls Try.prog 159 #[(.agg #[(vi aI), (vi aJ), (vi aK), (vu aL), (vs aM), aH.v]), (vi 0), (vp (some p2))] w3 (fun e w4 => ∃ r1 : Int, e = .returned (vi r1) ∧ 
  Kept H1 w3 w4 ∧
  K r1 w4)
theorem w_ref05_Looks (aI aJ : Int) (aK aL : Int) (aM : ByteArray) (aH : Sl) (w0 : World) (K : Int → World → Prop) (h : m_ref05_Looks aI aJ aK aL aM aH w0 K) :
  Calls Try.prog 125 #[(.agg #[(vi aI), (vi aJ), (vi aK), (vu aL), (vs aM), aH.v])] w0 (fun e w' => ∃ r2 : Int, e = .returned (vi r2) ∧ K r2 w') := by
 unfold m_ref05_Looks at h
 refine calls_of_wpE (args := [(.agg #[(vi aI), (vi aJ), (vi aK), (vu aL), (vs aM), aH.v])]) Try.func125 rfl Try.ntmps125 (Nat.le_of_ble_eq_true rfl) ?_
 have hs := Hst.start w0
 have hb := HB.nil None w0
 refine wpE_seq (rg (sn (O := (.cells #[(vi aI), (vi aJ), (vi aK), (vu aL), (vs aM), aH.v] 116)) xb ?_))
 intro p1 w1 hn1
 obtain ⟨H1, hs, hb⟩ := hs.alloc hb hn1
 refine q0 (vi 0) (wpL_nil (th_n (wpE_seq (rg ?_))))
 replace h := h H1 w1 hs
 replace hs := hs.here
 refine sn (O := (.cells #[(vi 0)] 3)) (x_alloc (Try.zeroValue3 _) rfl) ?_
 intro p2 w2 hn3
 replace h := h p2 w2 hn3
 replace hs := hs.again (Ext.new (F := None) hn3).keptP
 replace hb := hb.kept (Ext.new (F := None) hn3).keptP
 obtain ⟨hp1, hnh, h⟩ := h
 refine st_set (want0 rfl) (x_store (a := p2) (v := (vi 0)) (by kernel_rfl) (by kernel_rfl) rfl (Try.sizeOf3 _) hp1) ?_
 intro w3 hn2
 replace h := h w3 hn2
 have hk : Kept H1 w2 w3 := by rw [hn2]; exact Kept.setCell hnh
 replace hs := hs.again hk
 replace hb := hb.kept hk
 clear hk hnh
 refine wpL_nil (th_n (wpE_seq (rg (q2 (.agg #[(vi aI), (vi aJ), (vi aK), (vu aL), (vs aM), aH.v]) (x_loadA (a := p1) (vs := [(vi aI), (vi aJ), (vi aK), (vu aL), (vs aM), aH.v]) (by kernel_rfl) (Try.isAgg116 _) (Try.sizeOf116 _) rfl (hb.row0 0 6 gZ (by kernel_rfl))) ?_))))
 refine st_call (want0 rfl) (xc Try.call159) (h.mono ?_)
 rintro e w4 ⟨r1, rfl, hk, h⟩
 refine ⟨_, rfl, ?_⟩
 obtain ⟨hs, hb⟩ := hk.hh hs hb
 refine q0 (vi r1) (wpL_nil (th_n (wpE_ret (res1 (.inl rfl) Try.results125 (v := (vi r1)) (by kernel_rfl) ?_))))
 exact ⟨r1, rfl, h⟩
def m_ref05_Pool_Size (p1 : Option Addr) (t1 : Int) (w0 : World) (K : Int → World → Prop) : Prop :=
 Calls Try.prog 94 #[(vp p1), (vi t1)] w0 (fun e w1 => ∃ r1 : Bool, e = .returned (vb r1) ∧ 
  Br (!r1)
   (K 0 w1)
   (∃ a1 : Addr, p1 = some a1 ∧
   ∃ v1 : Sl, w1.cell? (a1.add 1) = some v1.v ∧
   ∃ a2 : Addr, At v1 (IntKind.i64.wrap (t1 - 1)) 1 a2 ∧
   ∃ v2 : Int, w1.cell? a2 = some (vi v2) ∧
   K v2 w1))
theorem w_ref05_Pool_Size (p1 : Option Addr) (t1 : Int) (w0 : World) (K : Int → World → Prop) (h : m_ref05_Pool_Size p1 t1 w0 K) :
  Calls Try.prog 128 #[(vp p1), (vi t1)] w0 (fun e w' => ∃ r2 : Int, e = .returned (vi r2) ∧ K r2 w') := by
 unfold m_ref05_Pool_Size at h
 refine calls_of_wpE (args := [(vp p1), (vi t1)]) Try.func128 rfl Try.ntmps128 (Nat.le_of_ble_eq_true rfl) (wpE_seq (rg (q0 (vi 0) (wpL_nil (th_n (wpE_seq (wpE_seq (rg (q0 (vp p1) (q0 (vi t1) ?_))))))))))
 refine st_call (want0 rfl) (xc Try.call94) (h.mono ?_)
 rintro e w1 ⟨r1, rfl, h⟩
 refine ⟨_, rfl, ?_⟩
 refine q0 (vb (!r1)) (wpL_nil (th_n ?_))
 refine wpE_cond (t := (!r1)) (by kernel_rfl) (fun hc1 => ?_) (fun hc1 => ?_)
 ·replace h := h.1 hc1
  refine wpE_seq (rg (q0 (vi 0) (wpL_nil (th_n (wpE_ret (th_r (res1 (.inl rfl) Try.results128 (v := (vi 0)) (by kernel_rfl) ?_)))))))
  exact ⟨0, rfl, h⟩
 ·replace h := h.2 hc1
  refine wpE_skip (th_n (wpE_seq (rg (q0 (vp p1) ?_))))
  obtain ⟨a1, hp1, h⟩ := h
  refine q2 (vp (some a1)) (x_nilCheck (p := p1) (by kernel_rfl) hp1) (q0 (vp (some (a1.add 1))) ?_)
  obtain ⟨v1, hv3, h⟩ := h
  refine q2 v1.v (xl (Try.isAgg73 _) hv3) (q0 (vi t1) (q0 (vi (IntKind.i64.wrap (t1 - 1))) ?_))
  obtain ⟨a2, hv2, h⟩ := h
  refine q2 (vp (some a2)) (x_indexAddr (s := v1) (k := .i64) (i := (IntKind.i64.wrap (t1 - 1))) (by kernel_rfl) (by kernel_rfl) (Try.runUnderlying73 _) (Try.sizeOf3 _) hv2) ?_
  obtain ⟨v2, hv1, h⟩ := h
  refine q2 (vi v2) (xl (Try.isAgg3 _) hv1) (q0 (vi v2) (wpL_nil (th_n (wpE_ret (res1 (.inl rfl) Try.results128 (v := (vi v2)) (by kernel_rfl) ?_)))))
  exact ⟨v2, rfl, h⟩
def m_ref05_Pool_Depth (p1 : Option Addr) (t1 : Int) (w0 : World) (K : Int → World → Prop) : Prop :=
 Calls Try.prog 94 #[(vp p1), (vi t1)] w0 (fun e w1 => ∃ r1 : Bool, e = .returned (vb r1) ∧ 
  Br (!r1)
   (K 0 w1)
   (∃ a1 : Addr, p1 = some a1 ∧
   ∃ v1 : Sl, w1.cell? (a1.add 2) = some v1.v ∧
   ∃ a2 : Addr, At v1 (IntKind.i64.wrap (t1 - 1)) 1 a2 ∧
   ∃ v2 : Int, w1.cell? a2 = some (vi v2) ∧
   K v2 w1))
theorem w_ref05_Pool_Depth (p1 : Option Addr) (t1 : Int) (w0 : World) (K : Int → World → Prop) (h : m_ref05_Pool_Depth p1 t1 w0 K) :
  Calls Try.prog 192 #[(vp p1), (vi t1)] w0 (fun e w' => ∃ r2 : Int, e = .returned (vi r2) ∧ K r2 w') := by
 unfold m_ref05_Pool_Depth at h
 refine calls_of_wpE (args := [(vp p1), (vi t1)]) Try.func192 rfl Try.ntmps192 (Nat.le_of_ble_eq_true rfl) (wpE_seq (rg (q0 (vi 0) (wpL_nil (th_n (wpE_seq (wpE_seq (rg (q0 (vp p1) (q0 (vi t1) ?_))))))))))
 refine st_call (want0 rfl) (xc Try.call94) (h.mono ?_)
 rintro e w1 ⟨r1, rfl, h⟩
 refine ⟨_, rfl, ?_⟩
 refine q0 (vb (!r1)) (wpL_nil (th_n ?_))
 refine wpE_cond (t := (!r1)) (by kernel_rfl) (fun hc1 => ?_) (fun hc1 => ?_)
 ·replace h := h.1 hc1
  refine wpE_seq (rg (q0 (vi 0) (wpL_nil (th_n (wpE_ret (th_r (res1 (.inl rfl) Try.results192 (v := (vi 0)) (by kernel_rfl) ?_)))))))
  exact ⟨0, rfl, h⟩
 ·replace h := h.2 hc1
  refine wpE_skip (th_n (wpE_seq (rg (q0 (vp p1) ?_))))
  obtain ⟨a1, hp1, h⟩ := h
  refine q2 (vp (some a1)) (x_nilCheck (p := p1) (by kernel_rfl) hp1) (q0 (vp (some (a1.add 2))) ?_)
  obtain ⟨v1, hv3, h⟩ := h
  refine q2 v1.v (xl (Try.isAgg73 _) hv3) (q0 (vi t1) (q0 (vi (IntKind.i64.wrap (t1 - 1))) ?_))
  obtain ⟨a2, hv2, h⟩ := h
  refine q2 (vp (some a2)) (x_indexAddr (s := v1) (k := .i64) (i := (IntKind.i64.wrap (t1 - 1))) (by kernel_rfl) (by kernel_rfl) (Try.runUnderlying73 _) (Try.sizeOf3 _) hv2) ?_
  obtain ⟨v2, hv1, h⟩ := h
  refine q2 (vi v2) (xl (Try.isAgg3 _) hv1) (q0 (vi v2) (wpL_nil (th_n (wpE_ret (res1 (.inl rfl) Try.results192 (v := (vi v2)) (by kernel_rfl) ?_)))))
  exact ⟨v2, rfl, h⟩
def m_ref05_Pool_Make_j1 (p1 : Option Addr) (aA aB : Int) (aC aE : Int) (aD : ByteArray) (aF aG : Int) (x1 : Bool) (w0 : World) (H : Nat → Prop) (w : World) (K : Int → Int → World → Prop) : Prop :=
 Br x1
  (K 0 51 w)
  (∃ C1 : World → Prop, C1 w.drew ∧ ∀ w4, w4 = w.drew →
  Calls Try.prog 128 #[(vp p1), (vi aF)] w4 (fun e w5 => ∃ r1 : Int, e = .returned (vi r1) ∧ C1 w5 ∧ 
   Kept H w4 w5 ∧
   Calls Try.prog 128 #[(vp p1), (vi aG)] w5 (fun e w6 => ∃ r2 : Int, e = .returned (vi r2) ∧ C1 w6 ∧ 
    Kept H w5 w6 ∧
    ∃ C2 : World → Prop, C2 w6.drew ∧ ∀ w7, w7 = w6.drew →
    Calls Try.prog 192 #[(vp p1), (vi aF)] w7 (fun e w8 => ∃ r3 : Int, e = .returned (vi r3) ∧ C2 w8 ∧ 
     Kept H w7 w8 ∧
     Calls Try.prog 192 #[(vp p1), (vi aG)] w8 (fun e w9 => ∃ r4 : Int, e = .returned (vi r4) ∧ C2 w9 ∧ 
      Kept H w8 w9 ∧
      ∃ z1 : Int, (∀ w', C2 w' → (Builtin.max_ #[3, 3] 3 #[(vi r3), (vi r4)]).run Try.prog w' = .ok (vi z1) w') ∧
      ∀ y1 : Bool, y1 = ((decide ((IntKind.i64.wrap ((IntKind.i64.wrap (1 + r1)) + r2)) > 4096)) || (decide ((IntKind.i64.wrap (1 + z1)) > 64))) →
      Br y1
       (∀ (H2 : Nat → Prop) (w10 : World), Hst w0 H w9 H2 w10 →
       K 0 52 w10)
       (∀ (H2 : Nat → Prop) (w10 : World), Hst w0 H w9 H2 w10 →
       Calls Try.prog 49 #[(vp p1), (.agg #[(vi aA), (vi aB), (vi aC), (vu aE), (vs aD), (vi aF), (vi aG)])] w10 (fun e w11 => ∃ r5 : Int, ∃ r6 : Bool, e = .returned (.tuple #[(vi r5), (vb r6)]) ∧ 
        Kept H2 w10 w11 ∧
        Br r6
         (K r5 0 w11)
         (∃ a1 : Addr, p1 = some a1 ∧
         ∃ v1 : Sl, w11.cell? a1 = some v1.v ∧
         Br (decide ((v1.len : Int) ≥ 65536))
          (K 0 6 w11)
          (∃ C3 : World → Prop, C3 w11.drew ∧ ∀ w12, w12 = w11.drew →
          ∃ a2 : Addr, p1 = some a2 ∧
          ∃ v2 : Sl, (∀ w', C3 w' → w'.cell? a2 = some v2.v) ∧
          ∀ (p3 : Addr) (w13 : World), New w12 (.cells #[(vi aA), (vi aB), (vi aC), (vu aE), (vs aD), (vi aF), (vi aG)] 93) p3 w13 → C3 w13 ∧
          ∃ s1 : Sl, ∃ w14 : World, (Builtin.append_ #[72, 72] 72 #[v2.v, (Sl.mk (some p3) 1 1).v]).run Try.prog w13 = .ok s1.v w14 ∧ C3 w14 ∧
          Kept H2 w13 w14 ∧
          ∃ a3 : Addr, p1 = some a3 ∧
          CanW w14 a3 ∧ ¬ H2 a3.block ∧ ∀ w15 : World, w15 = w14.setCell a3 s1.v →
          ∃ a4 : Addr, p1 = some a4 ∧
          ∃ v3 : Sl, w15.cell? (a4.add 1) = some v3.v ∧
          ∀ (p4 : Addr) (w16 : World), New w15 (.cells #[(vi (IntKind.i64.wrap ((IntKind.i64.wrap (1 + r1)) + r2)))] 3) p4 w16 →
          ∃ s2 : Sl, ∃ w17 : World, (Builtin.append_ #[73, 73] 73 #[v3.v, (Sl.mk (some p4) 1 1).v]).run Try.prog w16 = .ok s2.v w17 ∧
          Kept H2 w16 w17 ∧
          ∃ a5 : Addr, p1 = some a5 ∧
          CanW w17 (a5.add 1) ∧ ¬ H2 (a5.add 1).block ∧ ∀ w18 : World, w18 = w17.setCell (a5.add 1) s2.v →
          ∃ a6 : Addr, p1 = some a6 ∧
          ∃ v4 : Sl, w18.cell? (a6.add 2) = some v4.v ∧
          ∀ (p5 : Addr) (w19 : World), New w18 (.cells #[(vi (IntKind.i64.wrap (1 + z1)))] 3) p5 w19 →
          ∃ s3 : Sl, ∃ w20 : World, (Builtin.append_ #[73, 73] 73 #[v4.v, (Sl.mk (some p5) 1 1).v]).run Try.prog w19 = .ok s3.v w20 ∧
          Kept H2 w19 w20 ∧
          ∃ a7 : Addr, p1 = some a7 ∧
          CanW w20 (a7.add 2) ∧ ¬ H2 (a7.add 2).block ∧ ∀ w21 : World, w21 = w20.setCell (a7.add 2) s3.v →
          ∃ a8 : Addr, p1 = some a8 ∧
          ∃ v5 : Sl, w21.cell? a8 = some v5.v ∧
          K (v5.len : Int) 0 w21)))))))))
def m_ref05_Pool_Make_j2 (p1 : Option Addr) (aA aB : Int) (aC aE : Int) (aD : ByteArray) (aF aG : Int) (x2 : Bool) (w0 : World) (H : Nat → Prop) (w : World) (K : Int → Int → World → Prop) : Prop :=
 Br x2
  (m_ref05_Pool_Make_j1 p1 aA aB aC aE aD aF aG true w0 H w K)
  (Br (((s_ref05_Kids aA) : Int) == 2)
   (Calls Try.prog 94 #[(vp p1), (vi aG)] w (fun e w22 => ∃ r7 : Bool, e = .returned (vb r7) ∧ 
    Kept H w w22 ∧
    m_ref05_Pool_Make_j1 p1 aA aB aC aE aD aF aG (!r7) w0 H w22 K))
   (m_ref05_Pool_Make_j1 p1 aA aB aC aE aD aF aG false w0 H w K))
def m_ref05_Pool_Make (p1 : Option Addr) (aA aB : Int) (aC aE : Int) (aD : ByteArray) (aF aG : Int) (w0 : World) (K : Int → Int → World → Prop) : Prop :=
 Br (((s_ref05_shape aA aB aC aE aD aF aG) : Int) != 0)
  (∀ (H1 : Nat → Prop) (w2 : World), Hst w0 None w0 H1 w2 →
  K 0 (s_ref05_shape aA aB aC aE aD aF aG) w2)
  (Br (decide ((s_ref05_Kids aA) ≥ 1))
   (∀ (H1 : Nat → Prop) (w3 : World), Hst w0 None w0 H1 w3 →
   Calls Try.prog 94 #[(vp p1), (vi aF)] w3 (fun e w23 => ∃ r8 : Bool, e = .returned (vb r8) ∧ 
    Kept H1 w3 w23 ∧
    m_ref05_Pool_Make_j2 p1 aA aB aC aE aD aF aG (!r8) w0 H1 w23 K))
   (∀ (H1 : Nat → Prop) (w3 : World), Hst w0 None w0 H1 w3 →
   m_ref05_Pool_Make_j2 p1 aA aB aC aE aD aF aG false w0 H1 w3 K))
theorem w_ref05_Pool_Make (p1 : Option Addr) (aA aB : Int) (aC aE : Int) (aD : ByteArray) (aF aG : Int) (w0 : World) (K : Int → Int → World → Prop) (h : m_ref05_Pool_Make p1 aA aB aC aE aD aF aG w0 K) :
  Calls Try.prog 146 #[(vp p1), (.agg #[(vi aA), (vi aB), (vi aC), (vu aE), (vs aD), (vi aF), (vi aG)])] w0 (fun e w' => ∃ r9 r10 : Int, e = .returned (.tuple #[(vi r9), (vi r10)]) ∧ K r9 r10 w') := by
 unfold m_ref05_Pool_Make at h
 refine calls_of_wpE (args := [(vp p1), (.agg #[(vi aA), (vi aB), (vi aC), (vu aE), (vs aD), (vi aF), (vi aG)])]) Try.func146 rfl Try.ntmps146 (Nat.le_of_ble_eq_true rfl) ?_
 have hs := Hst.start w0
 have hb := HB.nil None w0
 refine wpE_seq (rg (sn (O := (.cells #[(vi aA), (vi aB), (vi aC), (vu aE), (vs aD), (vi aF), (vi aG)] 93)) xb ?_))
 intro p2 w1 hn1
 obtain ⟨H1, hs, hb⟩ := hs.alloc hb hn1
 refine q0 (vi 0) (q0 (vi 0) (wpL_nil (th_n (wpE_seq (rg (q2 (.agg #[(vi aA), (vi aB), (vi aC), (vu aE), (vs aD), (vi aF), (vi aG)]) (x_loadA (a := p2) (vs := [(vi aA), (vi aB), (vi aC), (vu aE), (vs aD), (vi aF), (vi aG)]) (by kernel_rfl) (Try.isAgg93 _) (Try.sizeOf93 _) rfl (hb.row0 0 7 gZ (by kernel_rfl))) ?_))))))
 refine st_call (want0 rfl) (xc Try.call191) ((p_ref05_shape aA aB aC aE aD aF aG w1).mono ?_)
 rintro e w2 ⟨he, hE⟩
 refine ⟨(vi (s_ref05_shape aA aB aC aE aD aF aG)), he.trans (by kernel_rfl), ?_⟩
 replace hs := hs.pure hE
 replace hb := hb.pure hE
 clear hE he
 refine q0 (vi (s_ref05_shape aA aB aC aE aD aF aG)) (wpL_nil (th_n (wpE_seq (wpE_seq (rg (q0 (vi (s_ref05_shape aA aB aC aE aD aF aG)) (q0 (vb (((s_ref05_shape aA aB aC aE aD aF aG) : Int) != 0)) (wpL_nil (th_n ?_)))))))))
 refine wpE_cond (t := (((s_ref05_shape aA aB aC aE aD aF aG) : Int) != 0)) (by kernel_rfl) (fun hc1 => ?_) (fun hc1 => ?_)
 ·replace h := h.1 hc1
  refine wpE_seq (rg (q0 (vi (s_ref05_shape aA aB aC aE aD aF aG)) (q0 (vi 0) (q0 (vi (s_ref05_shape aA aB aC aE aD aF aG)) (wpL_nil (th_n (wpE_ret (th_r ?_))))))))
  replace h := h H1 w2 hs
  replace hs := hs.here
  refine res2 (.inl rfl) Try.results146 (v := (vi 0)) (by kernel_rfl) (v' := (vi (s_ref05_shape aA aB aC aE aD aF aG))) (by kernel_rfl) ?_
  exact ⟨0, (s_ref05_shape aA aB aC aE aD aF aG), rfl, h⟩
 ·replace h := h.2 hc1
  refine wpE_skip (th_n (wpE_seq (rg (q0 (vp (some p2)) (q2 (vi aA) (xl (Try.isAgg3 _) (hb.c0 0 gZ)) ?_)))))
  refine st_call (want0 rfl) (xc Try.call107) ((p_ref05_Kids aA w2).mono ?_)
  rintro e w3 ⟨he, hE⟩
  refine ⟨(vi (s_ref05_Kids aA)), he.trans (by kernel_rfl), ?_⟩
  replace hs := hs.pure hE
  replace hb := hb.pure hE
  clear hE he
  refine q0 (vi (s_ref05_Kids aA)) (wpL_nil (th_n (wpE_seq (wpE_seq ?_))))
  refine wpE_joinT (fun ρ w => ∃ x1 : Bool, ∃ H : Nat → Prop, Has ρ [(0, (vp p1)), (3, (vp (some p2))), (39, (vb x1))] ∧ Hst w0 H w H w ∧ HB H w [(p2, [(vi aA), (vi aB), (vi aC), (vu aE), (vs aD), (vi aF), (vi aG)], 93)] ∧ m_ref05_Pool_Make_j1 p1 aA aB aC aE aD aF aG x1 w0 H w K) ?_ ?_
  ·clear h hs hb
   rintro ρ w ⟨x1, H, hH, hs, hb, h⟩
   unfold m_ref05_Pool_Make_j1 at h
   refine wpE_has hH ?_
   clear hH
   refine wpE_cond (t := x1) (by kernel_rfl) (fun hc2 => ?_) (fun hc2 => ?_)
   ·replace h := h.1 hc2
    refine wpE_seq (rg (q0 (vi 0) (q0 (vi 51) (wpL_nil (th_n (wpE_ret (th_r (res2 (.inl rfl) Try.results146 (v := (vi 0)) (by kernel_rfl) (v' := (vi 51)) (by kernel_rfl) ?_))))))))
    exact ⟨0, 51, rfl, h⟩
   ·replace h := h.2 hc2
    refine wpE_skip (th_n (wpE_seq ?_))
    obtain ⟨C1, hC, h⟩ := h
    refine wpE_drawnC (fun x => C1 x ∧ HB H x [(p2, [(vi aA), (vi aB), (vi aC), (vu aE), (vs aD), (vi aF), (vi aG)], 93)]) [3, 8] [] (by kernel_rfl) (by kernel_rfl) (by kernel_rfl) (by kernel_rfl) ⟨hC, hb.drew⟩ ?_
    clear hC
    intro w4 hw4
    replace h := h w4 hw4
    replace hs : Hst w0 H w H w4 := by rw [hw4]; exact hs.drew
    replace hb : HB H w4 [(p2, [(vi aA), (vi aB), (vi aC), (vu aE), (vs aD), (vi aF), (vi aG)], 93)] := by rw [hw4]; exact hb.drew
    replace hs := hs.here
    refine qx 0 (vp p1) Kp0 (qx 1 (vp (some (p2.add 5))) Kp1 (qz 2 (vi aF) Kp2 (fun w' hw' => (xl (Try.isAgg41 _) (hw'.2.cell 0 5 gZ (by kernel_rfl)))) (qx 5 (vp p1) Kp5 (qx 6 (vp (some (p2.add 6))) Kp6 (qz 7 (vi aG) Kp7 (fun w' hw' => (xl (Try.isAgg41 _) (hw'.2.cell 0 6 gZ (by kernel_rfl)))) (lgo (k := 3) (by kernel_rfl) ?_))))))
    refine sl_call Kp3 (want0 rfl) (by kernel_rfl) (xc Try.call128) (h.mono ?_)
    rintro e w5 ⟨r1, rfl, hC, hk, h⟩
    refine ⟨_, rfl, .inr ⟨hC, hb.kept hk⟩, ?_⟩
    obtain ⟨hs, hb⟩ := hk.hh hs hb
    refine qx 4 (vi (IntKind.i64.wrap (1 + r1))) Kp4 (lgo (k := 8) (by kernel_rfl) ?_)
    refine sl_call Kp8 (want0 rfl) (by kernel_rfl) (xc Try.call128) (h.mono ?_)
    rintro e w6 ⟨r2, rfl, hC, hk, h⟩
    refine ⟨_, rfl, .inr ⟨hC, hb.kept hk⟩, ?_⟩
    obtain ⟨hs, hb⟩ := hk.hh hs hb
    refine qx 9 (vi (IntKind.i64.wrap ((IntKind.i64.wrap (1 + r1)) + r2))) Kp9 (qx 10 (vi (IntKind.i64.wrap ((IntKind.i64.wrap (1 + r1)) + r2))) (pickA (S8 (pickS (pickS pickZ)))) (wpX_nil (by kernel_rfl) (th_n (wpE_seq ?_))))
    obtain ⟨C2, hC, h⟩ := h
    refine wpE_drawnC (fun x => C2 x ∧ HB H x [(p2, [(vi aA), (vi aB), (vi aC), (vu aE), (vs aD), (vi aF), (vi aG)], 93)]) [3, 7] [] (by kernel_rfl) (by kernel_rfl) (by kernel_rfl) (by kernel_rfl) ⟨hC, hb.drew⟩ ?_
    clear hC
    intro w7 hw7
    replace h := h w7 hw7
    replace hs : Hst w0 H w6 H w7 := by rw [hw7]; exact hs.drew
    replace hb : HB H w7 [(p2, [(vi aA), (vi aB), (vi aC), (vu aE), (vs aD), (vi aF), (vi aG)], 93)] := by rw [hw7]; exact hb.drew
    replace hs := hs.here
    refine qx 0 (vp p1) Kp0 (qx 1 (vp (some (p2.add 5))) Kp1 (qz 2 (vi aF) Kp2 (fun w' hw' => (xl (Try.isAgg41 _) (hw'.2.cell 0 5 gZ (by kernel_rfl)))) (qx 4 (vp p1) Kp4 (qx 5 (vp (some (p2.add 6))) Kp5 (qz 6 (vi aG) Kp6 (fun w' hw' => (xl (Try.isAgg41 _) (hw'.2.cell 0 6 gZ (by kernel_rfl)))) (lgo (k := 3) (by kernel_rfl) ?_))))))
    refine sl_call Kp3 (want0 rfl) (by kernel_rfl) (xc Try.call192) (h.mono ?_)
    rintro e w8 ⟨r3, rfl, hC, hk, h⟩
    refine ⟨_, rfl, .inr ⟨hC, hb.kept hk⟩, ?_⟩
    obtain ⟨hs, hb⟩ := hk.hh hs hb
    refine lgo (k := 7) (by kernel_rfl) ?_
    refine sl_call Kp7 (want0 rfl) (by kernel_rfl) (xc Try.call192) (h.mono ?_)
    rintro e w9 ⟨r4, rfl, hC, hk, h⟩
    refine ⟨_, rfl, .inr ⟨hC, hb.kept hk⟩, ?_⟩
    obtain ⟨hs, hb⟩ := hk.hh hs hb
    refine qgo (k := 8) (by kernel_rfl) ?_
    obtain ⟨z1, hv9, h⟩ := h
    refine sx (v := (vi z1)) Kp8 (want0 rfl) (by kernel_rfl) (fun w' hw' => (x_builtin (args := #[(vi r3), (vi r4)]) (by kernel_rfl) (fun _ => rfl) (hv9 w' hw'.1))) (qx 9 (vi (IntKind.i64.wrap (1 + z1))) Kp9 (qx 10 (vi (IntKind.i64.wrap (1 + z1))) (pickA (S8 (pickS (pickS pickZ)))) (wpX_nil (by kernel_rfl) (th_n (wpE_seq (wpE_seq ?_))))))
    refine wpE_via (fun ρ wJ => ∃ b1'0 y1 : Bool, ∃ HJ : Nat → Prop, ((decide ((IntKind.i64.wrap ((IntKind.i64.wrap (1 + r1)) + r2)) > 4096)) = b1'0) ∧ (y1 = (b1'0 || (decide ((IntKind.i64.wrap (1 + z1)) > 64)))) ∧ Hst w0 H w9 HJ wJ ∧ HB HJ wJ [(p2, [(vi aA), (vi aB), (vi aC), (vu aE), (vs aD), (vi aF), (vi aG)], 93)] ∧ Has ρ [(0, (vp p1)), (3, (vp (some p2))), (8, (vi (IntKind.i64.wrap ((IntKind.i64.wrap (1 + r1)) + r2)))), (9, (vi (IntKind.i64.wrap (1 + z1)))), (65, (vb y1))]) ?_ ?_
    ·skip
     refine rg (q0 (vi (IntKind.i64.wrap ((IntKind.i64.wrap (1 + r1)) + r2))) (q0 (vb (decide ((IntKind.i64.wrap ((IntKind.i64.wrap (1 + r1)) + r2)) > 4096))) (q0 (vb (decide ((IntKind.i64.wrap ((IntKind.i64.wrap (1 + r1)) + r2)) > 4096))) ?_)))
     rcases Bool.eq_false_or_eq_true (decide ((IntKind.i64.wrap ((IntKind.i64.wrap (1 + r1)) + r2)) > 4096)) with hg2 | hg2
     ·skip
      refine sk (yD 62 hg2) (sk (yD 62 hg2) (q2 (vb true) (xT hg2) (wpL_nil (th_n ?_))))
      exact ⟨true, _, _, hg2, rfl, hs, hb, Has.mk (by kernel_rfl)⟩
     ·skip
      refine q1 (vi (IntKind.i64.wrap (1 + z1))) (want1 rfl (yD 62 hg2)) (q1 (vb (decide ((IntKind.i64.wrap (1 + z1)) > 64))) (want1 rfl (yD 62 hg2)) (q2 (vb (decide ((IntKind.i64.wrap (1 + z1)) > 64))) (xF hg2) (wpL_nil (th_n ?_))))
      exact ⟨false, _, _, hg2, rfl, hs, hb, Has.mk (by kernel_rfl)⟩
    ·clear hs hb
     rintro ρ w10 ⟨b1'0, y1, H2, he0, hy1, hs, hb, hH⟩
     subst he0
     replace h := h y1 hy1
     refine norm_has hH ?_
     clear hH
     refine th_n ?_
     refine wpE_cond (t := y1) (by kernel_rfl) (fun hc3 => ?_) (fun hc3 => ?_)
     ·replace h := h.1 hc3
      refine wpE_seq (rg (q0 (vi 0) (q0 (vi 52) (wpL_nil (th_n (wpE_ret (th_r ?_)))))))
      replace h := h H2 w10 hs
      replace hs := hs.here
      refine res2 (.inl rfl) Try.results146 (v := (vi 0)) (by kernel_rfl) (v' := (vi 52)) (by kernel_rfl) ?_
      exact ⟨0, 52, rfl, h⟩
     ·replace h := h.2 hc3
      refine wpE_skip (th_n (wpE_seq (rg (q0 (vp p1) (q2 (.agg #[(vi aA), (vi aB), (vi aC), (vu aE), (vs aD), (vi aF), (vi aG)]) (x_loadA (a := p2) (vs := [(vi aA), (vi aB), (vi aC), (vu aE), (vs aD), (vi aF), (vi aG)]) (by kernel_rfl) (Try.isAgg93 _) (Try.sizeOf93 _) rfl (hb.row0 0 7 gZ (by kernel_rfl))) ?_)))))
      replace h := h H2 w10 hs
      replace hs := hs.here
      refine st_call (want0 rfl) (xc Try.call49) (h.mono ?_)
      rintro e w11 ⟨r5, r6, rfl, hk, h⟩
      refine ⟨_, rfl, ?_⟩
      obtain ⟨hs, hb⟩ := hk.hh hs hb
      refine q0 (.tuple #[(vi r5), (vb r6)]) (q0 (vi r5) (q0 (vb r6) (q0 (vi r5) (q0 (vb r6) (wpL_nil (th_n (wpE_seq (wpE_seq (rg (q0 (vb r6) (wpL_nil ?_)))))))))))
      refine th_n ?_
      refine wpE_cond (t := r6) (by kernel_rfl) (fun hc4 => ?_) (fun hc4 => ?_)
      ·replace h := h.1 hc4
       refine wpE_seq (rg (q0 (vi r5) (q0 (vi r5) (q0 (vi 0) (wpL_nil (th_n (wpE_ret (th_r (res2 (.inl rfl) Try.results146 (v := (vi r5)) (by kernel_rfl) (v' := (vi 0)) (by kernel_rfl) ?_)))))))))
       exact ⟨r5, 0, rfl, h⟩
      ·replace h := h.2 hc4
       refine wpE_skip (th_n (wpE_seq (wpE_seq (rg (q0 (vp p1) ?_)))))
       obtain ⟨a1, hp1, h⟩ := h
       refine q2 (vp (some a1)) (x_nilCheck (p := p1) (by kernel_rfl) hp1) (q0 (vp (some a1)) ?_)
       obtain ⟨v1, hv8, h⟩ := h
       refine q2 v1.v (xl (Try.isAgg72 _) hv8) (q0 (vi (v1.len : Int)) (q0 (vb (decide ((v1.len : Int) ≥ 65536))) (wpL_nil (th_n ?_))))
       refine wpE_cond (t := (decide ((v1.len : Int) ≥ 65536))) (by kernel_rfl) (fun hc5 => ?_) (fun hc5 => ?_)
       ·replace h := h.1 hc5
        refine wpE_seq (rg (q0 (vi 0) (q0 (vi 6) (wpL_nil (th_n (wpE_ret (th_r (res2 (.inl rfl) Try.results146 (v := (vi 0)) (by kernel_rfl) (v' := (vi 6)) (by kernel_rfl) ?_))))))))
        exact ⟨0, 6, rfl, h⟩
       ·replace h := h.2 hc5
        refine wpE_skip (th_n (wpE_seq ?_))
        obtain ⟨C3, hC, h⟩ := h
        refine wpE_drawnC (fun x => C3 x ∧ HB H2 x [(p2, [(vi aA), (vi aB), (vi aC), (vu aE), (vs aD), (vi aF), (vi aG)], 93)]) [6, 7, 10] [10] (by kernel_rfl) (by kernel_rfl) (by kernel_rfl) (by kernel_rfl) ⟨hC, hb.drew⟩ ?_
        clear hC
        intro w12 hw12
        replace h := h w12 hw12
        replace hs : Hst w0 H2 w11 H2 w12 := by rw [hw12]; exact hs.drew
        replace hb : HB H2 w12 [(p2, [(vi aA), (vi aB), (vi aC), (vu aE), (vs aD), (vi aF), (vi aG)], 93)] := by rw [hw12]; exact hb.drew
        replace hs := hs.here
        refine qx 0 (vp p1) Kp0 (qx 1 (vp p1) Kp1 (qgo (k := 2) (by kernel_rfl) ?_))
        obtain ⟨a2, hp2, h⟩ := h
        refine sx (v := (vp (some a2))) Kp2 (want0 rfl) (by kernel_rfl) (fun w' hw' => (x_nilCheck (p := p1) (by kernel_rfl) hp2)) (qx 3 (vp (some a2)) Kp3 (qgo (k := 4) (by kernel_rfl) ?_))
        obtain ⟨v2, hv7, h⟩ := h
        refine sx (v := v2.v) Kp4 (want0 rfl) (by kernel_rfl) (fun w' hw' => (xl (Try.isAgg72 _) (hv7 w' hw'.1))) (qz 5 (.agg #[(vi aA), (vi aB), (vi aC), (vu aE), (vs aD), (vi aF), (vi aG)]) Kp5 (fun w' hw' => (x_loadA (a := p2) (vs := [(vi aA), (vi aB), (vi aC), (vu aE), (vs aD), (vi aF), (vi aG)]) (by kernel_rfl) (Try.isAgg93 _) (Try.sizeOf93 _) rfl (hw'.2.row0 0 7 gZ (by kernel_rfl)))) (lgo (k := 6) (by kernel_rfl) (sl_new (O := (.cells #[(vi aA), (vi aB), (vi aC), (vu aE), (vs aD), (vi aF), (vi aG)] 93)) (fun p => (Sl.mk (some p) 1 1).v) Kp6 (want0 rfl) (by kernel_rfl) (x_buildSlice (vs := #[(0, (.agg #[(vi aA), (vi aB), (vi aC), (vu aE), (vs aD), (vi aF), (vi aG)]))]) (by kernel_rfl) (by kernel_rfl)) ?_)))
        intro p3 w13 hn7
        replace h := h p3 w13 hn7
        refine ⟨.inr ⟨h.1, hb.kept (Ext.new (F := None) hn7).keptP⟩, ?_⟩
        replace h := h.2
        replace hs := hs.again (Ext.new (F := None) hn7).keptP
        replace hb := hb.kept (Ext.new (F := None) hn7).keptP
        refine lgo (k := 7) (by kernel_rfl) ?_
        obtain ⟨s1, w14, hv6, hC, hk, h⟩ := h
        refine sl (v := s1.v) Kp7 (want0 rfl) (by kernel_rfl) (x_builtin (args := #[v2.v, (Sl.mk (some p3) 1 1).v]) (by kernel_rfl) (fun _ => rfl) hv6) (.inr ⟨hC, hb.kept hk⟩) ?_
        clear hC
        obtain ⟨hs, hb⟩ := hk.hh hs hb
        refine qgo (k := 8) (by kernel_rfl) ?_
        obtain ⟨a3, hp3, h⟩ := h
        refine sx (v := (vp (some a3))) Kp8 (want0 rfl) (by kernel_rfl) (fun w' hw' => (x_nilCheck (p := p1) (by kernel_rfl) hp3)) (qx 9 (vp (some a3)) Kp9 (lgo (k := 10) (by kernel_rfl) ?_))
        obtain ⟨hp4, hnh, h⟩ := h
        refine sl_set (pickA (S8 (pickS (pickS pickZ)))) (want0 rfl) (by kernel_rfl) (x_store (a := a3) (v := s1.v) (by kernel_rfl) (by kernel_rfl) rfl (Try.sizeOf72 _) hp4) ?_
        intro w15 hn2
        replace h := h w15 hn2
        refine ⟨.inl (by kernel_rfl), ?_⟩
        have hk : Kept H2 w14 w15 := by rw [hn2]; exact Kept.setCell hnh
        replace hs := hs.again hk
        replace hb := hb.kept hk
        clear hk hnh
        refine wpX_nil (by kernel_rfl) (th_n (wpE_seq (rg (q0 (vp p1) (q0 (vp p1) ?_)))))
        obtain ⟨a4, hp5, h⟩ := h
        refine q2 (vp (some a4)) (x_nilCheck (p := p1) (by kernel_rfl) hp5) (q0 (vp (some (a4.add 1))) ?_)
        obtain ⟨v3, hv5, h⟩ := h
        refine q2 v3.v (xl (Try.isAgg73 _) hv5) (q0 (vi (IntKind.i64.wrap ((IntKind.i64.wrap (1 + r1)) + r2))) (st_new (O := (.cells #[(vi (IntKind.i64.wrap ((IntKind.i64.wrap (1 + r1)) + r2)))] 3)) (fun p => (Sl.mk (some p) 1 1).v) (want0 rfl) (x_buildSlice (vs := #[(0, (vi (IntKind.i64.wrap ((IntKind.i64.wrap (1 + r1)) + r2))))]) (by kernel_rfl) (by kernel_rfl)) ?_))
        intro p4 w16 hn6
        replace h := h p4 w16 hn6
        replace hs := hs.again (Ext.new (F := None) hn6).keptP
        replace hb := hb.kept (Ext.new (F := None) hn6).keptP
        obtain ⟨s2, w17, hv4, hk, h⟩ := h
        refine st (v := s2.v) (want0 rfl) (x_builtin (args := #[v3.v, (Sl.mk (some p4) 1 1).v]) (by kernel_rfl) (fun _ => rfl) hv4) ?_
        obtain ⟨hs, hb⟩ := hk.hh hs hb
        obtain ⟨a5, hp6, h⟩ := h
        refine q2 (vp (some a5)) (x_nilCheck (p := p1) (by kernel_rfl) hp6) (q0 (vp (some (a5.add 1))) ?_)
        obtain ⟨hp7, hnh, h⟩ := h
        refine st_set (want0 rfl) (x_store (a := (a5.add 1)) (v := s2.v) (by kernel_rfl) (by kernel_rfl) rfl (Try.sizeOf73 _) hp7) ?_
        intro w18 hn3
        replace h := h w18 hn3
        have hk : Kept H2 w17 w18 := by rw [hn3]; exact Kept.setCell hnh
        replace hs := hs.again hk
        replace hb := hb.kept hk
        clear hk hnh
        refine wpL_nil (th_n (wpE_seq (rg (q0 (vp p1) (q0 (vp p1) ?_)))))
        obtain ⟨a6, hp8, h⟩ := h
        refine q2 (vp (some a6)) (x_nilCheck (p := p1) (by kernel_rfl) hp8) (q0 (vp (some (a6.add 2))) ?_)
        obtain ⟨v4, hv3, h⟩ := h
        refine q2 v4.v (xl (Try.isAgg73 _) hv3) (q0 (vi (IntKind.i64.wrap (1 + z1))) (st_new (O := (.cells #[(vi (IntKind.i64.wrap (1 + z1)))] 3)) (fun p => (Sl.mk (some p) 1 1).v) (want0 rfl) (x_buildSlice (vs := #[(0, (vi (IntKind.i64.wrap (1 + z1))))]) (by kernel_rfl) (by kernel_rfl)) ?_))
        intro p5 w19 hn5
        replace h := h p5 w19 hn5
        replace hs := hs.again (Ext.new (F := None) hn5).keptP
        replace hb := hb.kept (Ext.new (F := None) hn5).keptP
        obtain ⟨s3, w20, hv2, hk, h⟩ := h
        refine st (v := s3.v) (want0 rfl) (x_builtin (args := #[v4.v, (Sl.mk (some p5) 1 1).v]) (by kernel_rfl) (fun _ => rfl) hv2) ?_
        obtain ⟨hs, hb⟩ := hk.hh hs hb
        obtain ⟨a7, hp9, h⟩ := h
        refine q2 (vp (some a7)) (x_nilCheck (p := p1) (by kernel_rfl) hp9) (q0 (vp (some (a7.add 2))) ?_)
        obtain ⟨hp10, hnh, h⟩ := h
        refine st_set (want0 rfl) (x_store (a := (a7.add 2)) (v := s3.v) (by kernel_rfl) (by kernel_rfl) rfl (Try.sizeOf73 _) hp10) ?_
        intro w21 hn4
        replace h := h w21 hn4
        have hk : Kept H2 w20 w21 := by rw [hn4]; exact Kept.setCell hnh
        replace hs := hs.again hk
        replace hb := hb.kept hk
        clear hk hnh
        refine wpL_nil (th_n (wpE_seq (rg (q0 (vp p1) ?_))))
        obtain ⟨a8, hp11, h⟩ := h
        refine q2 (vp (some a8)) (x_nilCheck (p := p1) (by kernel_rfl) hp11) (q0 (vp (some a8)) ?_)
        obtain ⟨v5, hv1, h⟩ := h
        refine q2 v5.v (xl (Try.isAgg72 _) hv1) (q0 (vi (v5.len : Int)) (q0 (vi (v5.len : Int)) (q0 (vi 0) (wpL_nil (th_n (wpE_ret (res2 (.inl rfl) Try.results146 (v := (vi (v5.len : Int))) (by kernel_rfl) (v' := (vi 0)) (by kernel_rfl) ?_)))))))
        exact ⟨(v5.len : Int), 0, rfl, h⟩
  ·skip
   refine rg (q0 (vi (s_ref05_Kids aA)) (q0 (vb (decide ((s_ref05_Kids aA) ≥ 1))) (q0 (vb (decide ((s_ref05_Kids aA) ≥ 1))) ?_)))
   refine wpL_join 6 (fun ρ w => ∃ x2 : Bool, ∃ H : Nat → Prop, Has ρ [(0, (vp p1)), (3, (vp (some p2))), (7, (vi (s_ref05_Kids aA))), (28, (vb x2))] ∧ Hst w0 H w H w ∧ HB H w [(p2, [(vi aA), (vi aB), (vi aC), (vu aE), (vs aD), (vi aF), (vi aG)], 93)] ∧ m_ref05_Pool_Make_j2 p1 aA aB aC aE aD aF aG x2 w0 H w K) ?_ ?_
   ·clear h hs hb
    rintro ρ w ⟨x2, H, hH, hs, hb, h⟩
    unfold m_ref05_Pool_Make_j2 at h
    refine wpL_has hH ?_
    clear hH
    refine q0 (vb x2) ?_
    rcases Bool.eq_false_or_eq_true x2 with hg3 | hg3
    ·replace h := h.1 hg3
     refine sk (yD 29 hg3) (sk (yD 29 hg3) (sk (yD 29 hg3) (st_not (by kernel_rfl) (st_not (by kernel_rfl) (st_not (by kernel_rfl) (st_not (by kernel_rfl) (st_not (by kernel_rfl) (sk (yD 29 hg3) (q2 (vb true) (xT hg3) (wpL_nil (th_n ?_)))))))))))
     exact ⟨true, H, Has.mk (by kernel_rfl), hs, hb, h⟩
    ·replace h := h.2 hg3
     refine q1 (vi (s_ref05_Kids aA)) (want1 rfl (yD 29 hg3)) (q1 (vb (((s_ref05_Kids aA) : Int) == 2)) (want1 rfl (yD 29 hg3)) (q1 (vb (((s_ref05_Kids aA) : Int) == 2)) (want1 rfl (yD 29 hg3)) ?_))
     rcases Bool.eq_false_or_eq_true (((s_ref05_Kids aA) : Int) == 2) with hg4 | hg4
     ·replace h := h.1 hg4
      refine q1 (vp p1) (want1 rfl (yD 32 hg4)) (q1 (vp (some (p2.add 6))) (want1 rfl (yD 32 hg4)) (stp (v := (vi aG)) (want1 rfl (yD 32 hg4)) (xl (Try.isAgg41 _) (hb.c 0 6 gZ)) ?_))
      refine st_call (want1 rfl (yD 32 hg4)) (xc Try.call94) (h.mono ?_)
      rintro e w22 ⟨r7, rfl, hk, h⟩
      refine ⟨_, rfl, ?_⟩
      obtain ⟨hs, hb⟩ := hk.hh hs hb
      refine q1 (vb (!r7)) (want1 rfl (yD 32 hg4)) (stp (v := (vb (!r7))) (want1 rfl (yD 29 hg3)) (xT hg4) (q2 (vb (!r7)) (xF hg3) (wpL_nil (th_n ?_))))
      exact ⟨(!r7), H, Has.mk (by kernel_rfl), hs, hb, h⟩
     ·replace h := h.2 hg4
      refine sk (yD 32 hg4) (sk (yD 32 hg4) (sk (yD 32 hg4) (sk (yD 32 hg4) (sk (yD 32 hg4) (stp (v := (vb false)) (want1 rfl (yD 29 hg3)) (xF hg4) (q2 (vb false) (xF hg3) (wpL_nil (th_n ?_))))))))
      exact ⟨false, H, Has.mk (by kernel_rfl), hs, hb, h⟩
   ·skip
    rcases Bool.eq_false_or_eq_true (decide ((s_ref05_Kids aA) ≥ 1)) with hg5 | hg5
    ·replace h := h.1 hg5
     refine q1 (vp p1) (want1 rfl (yD 22 hg5)) (q1 (vp (some (p2.add 5))) (want1 rfl (yD 22 hg5)) (stp (v := (vi aF)) (want1 rfl (yD 22 hg5)) (xl (Try.isAgg41 _) (hb.c 0 5 gZ)) ?_))
     replace h := h H1 w3 hs
     replace hs := hs.here
     refine st_call (want1 rfl (yD 22 hg5)) (xc Try.call94) (h.mono ?_)
     rintro e w23 ⟨r8, rfl, hk, h⟩
     refine ⟨_, rfl, ?_⟩
     obtain ⟨hs, hb⟩ := hk.hh hs hb
     refine q1 (vb (!r8)) (want1 rfl (yD 22 hg5)) (q2 (vb (!r8)) (xT hg5) (wpL_nil ?_))
     exact ⟨(!r8), H1, Has.mk (by kernel_rfl), hs, hb, h⟩
    ·replace h := h.2 hg5
     refine sk (yD 22 hg5) (sk (yD 22 hg5) (sk (yD 22 hg5) (sk (yD 22 hg5) (sk (yD 22 hg5) (q2 (vb false) (xF hg5) (wpL_nil ?_))))))
     replace h := h H1 w3 hs
     replace hs := hs.here
     exact ⟨false, H1, Has.mk (by kernel_rfl), hs, hb, h⟩
def m_ref05_Pool_made_l1 (p1 : Option Addr) (aH : Sl) (i1 aA : Int) (aB aC aE : Int) (aD : ByteArray) (aF aG : Int) (w0 : World) (Hl1 : Nat → Prop) (wl1 : World) (Kc1 : Int → Int → Int → Int → Int → ByteArray → Int → Int → (Nat → Prop) → World → Prop) (K : Int → Int → World → Prop) : Prop :=
 Br (decide (i1 < (aH.len : Int)))
  (∃ a1 : Addr, At aH i1 6 a1 ∧
  ∃ aN aO : Int, ∃ aP aQ : Int, ∃ aR : ByteArray, ∃ bC : Sl, Row wl1 a1 [(vi aN), (vi aO), (vi aP), (vu aQ), (vs aR), bC.v] ∧
  Calls Try.prog 126 #[(vp p1), (.agg #[(vi aN), (vi aO), (vi aP), (vu aQ), (vs aR), bC.v])] wl1 (fun e w5 => ∃ r1 r2 : Int, e = .returned (.tuple #[(vi r1), (vi r2)]) ∧ 
   Kept Hl1 wl1 w5 ∧
   Br (r2 != 0)
    (K 0 r2 w5)
    (∀ (H3 : Nat → Prop) (w8 : World), Hst w0 Hl1 w5 H3 w8 →
    Kc1 (IntKind.i64.wrap (i1 + 1)) aA aB aC aE aD (cond (i1 == 0) r1 aF) (cond (i1 == 0) aG r1) H3 w8)))
  (Calls Try.prog 146 #[(vp p1), (.agg #[(vi aA), (vi aB), (vi aC), (vu aE), (vs aD), (vi aF), (vi aG)])] wl1 (fun e w11 => ∃ r3 r4 : Int, e = .returned (.tuple #[(vi r3), (vi r4)]) ∧ 
   Kept Hl1 wl1 w11 ∧
   K r3 r4 w11))
def m_ref05_Pool_made (p1 : Option Addr) (aI aJ : Int) (aK aL : Int) (aM : ByteArray) (aH : Sl) (w0 : World) (K : Int → Int → World → Prop) : Prop :=
 ∀ (H2 : Nat → Prop) (w4 : World), Hst w0 None w0 H2 w4 →
 ∃ (I1 : Int → Int → Int → Int → Int → ByteArray → Int → Int → (Nat → Prop) → World → Prop) (mu1 : Int → Int → Int → Int → Int → ByteArray → Int → Int → World → Nat), I1 0 aI aJ aK aL aM 0 0 H2 w4 ∧
  ∀ (i1 aA : Int) (aB aC aE : Int) (aD : ByteArray) (aF aG : Int) (Hl1 : Nat → Prop) (wl1 : World), Hst w0 Hl1 wl1 Hl1 wl1 → I1 i1 aA aB aC aE aD aF aG Hl1 wl1 → m_ref05_Pool_made_l1 p1 aH i1 aA aB aC aE aD aF aG w0 Hl1 wl1 (fun y'0 y'1 y'2 y'3 y'4 y'5 y'6 y'7 H' w' => I1 y'0 y'1 y'2 y'3 y'4 y'5 y'6 y'7 H' w' ∧ mu1 y'0 y'1 y'2 y'3 y'4 y'5 y'6 y'7 w' < mu1 i1 aA aB aC aE aD aF aG wl1) K
theorem w_ref05_Pool_made (p1 : Option Addr) (aI aJ : Int) (aK aL : Int) (aM : ByteArray) (aH : Sl) (w0 : World) (K : Int → Int → World → Prop) (h : m_ref05_Pool_made p1 aI aJ aK aL aM aH w0 K) :
  Calls Try.prog 126 #[(vp p1), (.agg #[(vi aI), (vi aJ), (vi aK), (vu aL), (vs aM), aH.v])] w0 (fun e w' => ∃ r5 r6 : Int, e = .returned (.tuple #[(vi r5), (vi r6)]) ∧ K r5 r6 w') := by
 unfold m_ref05_Pool_made at h
 refine calls_of_wpE (args := [(vp p1), (.agg #[(vi aI), (vi aJ), (vi aK), (vu aL), (vs aM), aH.v])]) Try.func126 rfl Try.ntmps126 (Nat.le_of_ble_eq_true rfl) ?_
 have hs := Hst.start w0
 have hb := HB.nil None w0
 refine wpE_seq (rg (sn (O := (.cells #[(vi aI), (vi aJ), (vi aK), (vu aL), (vs aM), aH.v] 116)) xb ?_))
 intro p2 w1 hn1
 obtain ⟨H1, hs, hb⟩ := hs.alloc hb hn1
 refine q0 (vi 0) (q0 (vi 0) (wpL_nil (th_n (wpE_seq (rg (q2 (.agg #[(vi aI), (vi aJ), (vi aK), (vu aL), (vs aM), aH.v]) (x_loadA (a := p2) (vs := [(vi aI), (vi aJ), (vi aK), (vu aL), (vs aM), aH.v]) (by kernel_rfl) (Try.isAgg116 _) (Try.sizeOf116 _) rfl (hb.row0 0 6 gZ (by kernel_rfl))) ?_))))))
 refine st_call (want0 rfl) (xc Try.call160) ((p_ref05_node aI aJ aK aL aM aH w1).mono ?_)
 rintro e w2 ⟨he, hE⟩
 refine ⟨(.agg #[(vi aI), (vi aJ), (vi aK), (vu aL), (vs aM), (vi 0), (vi 0)]), he.trans (by kernel_rfl), ?_⟩
 replace hs := hs.pure hE
 replace hb := hb.pure hE
 clear hE he
 refine sn (O := (.cells #[(vi 0), (vi 0), (vi 0), (vu 0), (vs ⟨#[]⟩), (vi 0), (vi 0)] 93)) (x_alloc (Try.zeroValue93 _) rfl) ?_
 intro p3 w3 hn2
 obtain ⟨H2, hs, hb⟩ := hs.alloc hb hn2
 refine st_set (want0 rfl) (x_storeA (a := p3) (vs := [(vi aI), (vi aJ), (vi aK), (vu aL), (vs aM), (vi 0), (vi 0)]) (by kernel_rfl) (by kernel_rfl) rfl (Try.sizeOf93 _) rfl (hb.canWs0 0 7 gZ (by kernel_rfl))) ?_
 intro w4 hn3
 have hsb : Hst w0 None w0 H2 w4 ∧ HB H2 w4 [(p3, [(vi aI), (vi aJ), (vi aK), (vu aL), (vs aM), (vi 0), (vi 0)], 93), (p2, [(vi aI), (vi aJ), (vi aK), (vu aL), (vs aM), aH.v], 116)] := by
  rw [hn3]
  exact hb.store0 (i := 0) (vs := [(vi aI), (vi aJ), (vi aK), (vu aL), (vs aM), (vi 0), (vi 0)]) hs gZ (by kernel_rfl) (by kernel_rfl)
 clear hs hb hn3
 obtain ⟨hs, hb⟩ := hsb
 refine wpL_nil (th_n (wpE_seq (wpE_seq (rg (q0 (vi 0) (wpL_nil (th_n (wpE_block ?_))))))))
 replace h := h H2 w4 hs
 replace hs := hs.here
 obtain ⟨I1, mu1, h0, hr⟩ := h
 refine wpE_loop (σ := Int × Int × Int × Int × Int × ByteArray × Int × Int × (Nat → Prop) × World) (fun s ρ w => w = s.2.2.2.2.2.2.2.2.2 ∧ Has ρ [(0, (vp p1)), (3, (vp (some p2))), (6, (vp (some p3))), (7, (vi s.1))] ∧ Hst w0 s.2.2.2.2.2.2.2.2.1 w s.2.2.2.2.2.2.2.2.1 w ∧ HB s.2.2.2.2.2.2.2.2.1 w [(p3, [(vi s.2.1), (vi s.2.2.1), (vi s.2.2.2.1), (vu s.2.2.2.2.1), (vs s.2.2.2.2.2.1), (vi s.2.2.2.2.2.2.1), (vi s.2.2.2.2.2.2.2.1)], 93), (p2, [(vi aI), (vi aJ), (vi aK), (vu aL), (vs aM), aH.v], 116)] ∧ I1 s.1 s.2.1 s.2.2.1 s.2.2.2.1 s.2.2.2.2.1 s.2.2.2.2.2.1 s.2.2.2.2.2.2.1 s.2.2.2.2.2.2.2.1 s.2.2.2.2.2.2.2.2.1 s.2.2.2.2.2.2.2.2.2) (fun s => mu1 s.1 s.2.1 s.2.2.1 s.2.2.2.1 s.2.2.2.2.1 s.2.2.2.2.2.1 s.2.2.2.2.2.2.1 s.2.2.2.2.2.2.2.1 s.2.2.2.2.2.2.2.2.2) (0, aI, aJ, aK, aL, aM, 0, 0, H2, w4) ⟨rfl, Has.mk (by kernel_rfl), hs, hb, h0⟩ ?_
 clear hs hb
 rintro ⟨i1, aA, aB, aC, aE, aD, aF, aG, Hl1, wl1⟩ ρ w ⟨hw, hH, hs, hb, hI⟩
 obtain rfl : wl1 = w := (show w = wl1 from hw).symm
 replace hH : Has ρ [(0, (vp p1)), (3, (vp (some p2))), (6, (vp (some p3))), (7, (vi i1))] := hH
 replace hs : Hst w0 Hl1 wl1 Hl1 wl1 := hs
 replace hb : HB Hl1 wl1 [(p3, [(vi aA), (vi aB), (vi aC), (vu aE), (vs aD), (vi aF), (vi aG)], 93), (p2, [(vi aI), (vi aJ), (vi aK), (vu aL), (vs aM), aH.v], 116)] := hb
 have h := hr i1 aA aB aC aE aD aF aG Hl1 wl1 hs hI
 clear hr h0
 unfold m_ref05_Pool_made_l1 at h
 refine wpE_has hH ?_
 clear hH hI
 refine wpE_seq (wpE_seq (rg (q0 (vi i1) (q0 (vp (some (p2.add 5))) (q2 aH.v (xl (Try.isAgg22 _) (hb.c 1 5 (gS gZ))) (q0 (vi (aH.len : Int)) (q0 (vb (decide (i1 < (aH.len : Int)))) (wpL_nil (th_n ?_)))))))))
 refine wpE_cond (t := (decide (i1 < (aH.len : Int)))) (by kernel_rfl) (fun hc1 => ?_) (fun hc1 => ?_)
 ·replace h := h.1 hc1
  refine wpE_skip (th_n (wpE_seq (wpE_block (wpE_seq (rg (q0 (vp p1) (q0 (vp (some (p2.add 5))) (q2 aH.v (xl (Try.isAgg22 _) (hb.c 1 5 (gS gZ))) (q0 (vi i1) ?_)))))))))
  obtain ⟨a1, hv2, h⟩ := h
  refine q2 (vp (some a1)) (x_indexAddr (s := aH) (k := .i64) (i := i1) (by kernel_rfl) (by kernel_rfl) (Try.runUnderlying22 _) (Try.sizeOf116 _) hv2) ?_
  obtain ⟨aN, aO, aP, aQ, aR, bC, hv1, h⟩ := h
  refine q2 (.agg #[(vi aN), (vi aO), (vi aP), (vu aQ), (vs aR), bC.v]) (x_loadA (a := a1) (vs := [(vi aN), (vi aO), (vi aP), (vu aQ), (vs aR), bC.v]) (by kernel_rfl) (Try.isAgg116 _) (Try.sizeOf116 _) rfl hv1) ?_
  refine st_call (want0 rfl) (xc Try.call126) (h.mono ?_)
  rintro e w5 ⟨r1, r2, rfl, hk, h⟩
  refine ⟨_, rfl, ?_⟩
  obtain ⟨hs, hb⟩ := hk.hh hs hb
  refine q0 (.tuple #[(vi r1), (vi r2)]) (q0 (vi r1) (q0 (vi r2) (q0 (vi r1) (q0 (vi r2) (wpL_nil (th_n (wpE_seq (wpE_seq (rg (q0 (vi r2) (q0 (vb (r2 != 0)) ?_)))))))))))
  refine wpL_nil (th_n ?_)
  refine wpE_cond (t := (r2 != 0)) (by kernel_rfl) (fun hc2 => ?_) (fun hc2 => ?_)
  ·replace h := h.1 hc2
   refine wpE_seq (rg (q0 (vi r2) (q0 (vi 0) (q0 (vi r2) (wpL_nil (th_n (wpE_ret (th_r (bl_r (th_r (th_r ?_)))))))))))
   refine bl_r (th_r (res2 (.inl rfl) Try.results126 (v := (vi 0)) (by kernel_rfl) (v' := (vi r2)) (by kernel_rfl) ?_))
   exact ⟨0, r2, rfl, h⟩
  ·replace h := h.2 hc2
   refine wpE_skip (th_n (wpE_seq (rg (q0 (vi i1) (q0 (vb (i1 == 0)) (wpL_nil (th_n ?_)))))))
   refine wpE_via (fun ρ wJ => ∃ b1'0 : Bool, ∃ HJ : Nat → Prop, ((i1 == 0) = b1'0) ∧ Hst w0 Hl1 w5 HJ wJ ∧ HB HJ wJ [(p3, [(vi aA), (vi aB), (vi aC), (vu aE), (vs aD), (vi (cond b1'0 r1 aF)), (vi (cond b1'0 aG r1))], 93), (p2, [(vi aI), (vi aJ), (vi aK), (vu aL), (vs aM), aH.v], 116)] ∧ Has ρ [(0, (vp p1)), (3, (vp (some p2))), (6, (vp (some p3))), (7, (vi i1))]) ?_ ?_
   ·skip
    refine wpE_cond (t := (i1 == 0)) (by kernel_rfl) (fun hc4 => ?_) (fun hc4 => ?_)
    ·skip
     refine rg (q0 (vi r1) (q0 (vp (some (p3.add 5))) (st_set (want0 rfl) (x_store (a := (p3.add 5)) (v := (vi r1)) (by kernel_rfl) (by kernel_rfl) rfl (Try.sizeOf41 _) (hb.canW 0 5 gZ (by kernel_rfl))) ?_)))
     intro w9 hn6
     have hsb : Hst w0 Hl1 w5 Hl1 w9 ∧ HB Hl1 w9 [(p3, [(vi aA), (vi aB), (vi aC), (vu aE), (vs aD), (vi r1), (vi aG)], 93), (p2, [(vi aI), (vi aJ), (vi aK), (vu aL), (vs aM), aH.v], 116)] := by
      rw [hn6]
      exact hb.set (i := 0) 5 (v := (vi r1)) hs gZ (by kernel_rfl)
     clear hs hb hn6
     obtain ⟨hs, hb⟩ := hsb
     refine wpL_nil (th_n ?_)
     exact ⟨true, _, hc4, hs, hb, Has.mk (by kernel_rfl)⟩
    ·skip
     refine rg (q0 (vi r1) (q0 (vp (some (p3.add 6))) (st_set (want0 rfl) (x_store (a := (p3.add 6)) (v := (vi r1)) (by kernel_rfl) (by kernel_rfl) rfl (Try.sizeOf41 _) (hb.canW 0 6 gZ (by kernel_rfl))) ?_)))
     intro w10 hn7
     have hsb : Hst w0 Hl1 w5 Hl1 w10 ∧ HB Hl1 w10 [(p3, [(vi aA), (vi aB), (vi aC), (vu aE), (vs aD), (vi aF), (vi r1)], 93), (p2, [(vi aI), (vi aJ), (vi aK), (vu aL), (vs aM), aH.v], 116)] := by
      rw [hn7]
      exact hb.set (i := 0) 6 (v := (vi r1)) hs gZ (by kernel_rfl)
     clear hs hb hn7
     obtain ⟨hs, hb⟩ := hsb
     refine wpL_nil (th_n ?_)
     exact ⟨false, _, hc4, hs, hb, Has.mk (by kernel_rfl)⟩
   ·clear hs hb
    rintro ρ w8 ⟨b1'0, H3, he0, hs, hb, hH⟩
    subst he0
    refine norm_has hH ?_
    clear hH
    refine bl_n (th_n (rg (q0 (vi i1) (q0 (vi (IntKind.i64.wrap (i1 + 1))) (q0 (vi (IntKind.i64.wrap (i1 + 1))) (wpL_nil ?_))))))
    replace h := h H3 w8 hs
    replace hs := hs.here
    refine th_n ?_
    exact ⟨((IntKind.i64.wrap (i1 + 1)), aA, aB, aC, aE, aD, (cond (i1 == 0) r1 aF), (cond (i1 == 0) aG r1), H3, w8), ⟨rfl, Has.mk (by kernel_rfl), hs, hb, h.1⟩, h.2⟩
 ·replace h := h.2 hc1
  refine wpE_exit (th_x (th_x (bl_eq (th_n (wpE_seq (rg (q0 (vp p1) (q2 (.agg #[(vi aA), (vi aB), (vi aC), (vu aE), (vs aD), (vi aF), (vi aG)]) (x_loadA (a := p3) (vs := [(vi aA), (vi aB), (vi aC), (vu aE), (vs aD), (vi aF), (vi aG)]) (by kernel_rfl) (Try.isAgg93 _) (Try.sizeOf93 _) rfl (hb.row0 0 7 gZ (by kernel_rfl))) ?_))))))))
  refine st_call (want0 rfl) (xc Try.call146) (h.mono ?_)
  rintro e w11 ⟨r3, r4, rfl, hk, h⟩
  refine ⟨_, rfl, ?_⟩
  obtain ⟨hs, hb⟩ := hk.hh hs hb
  refine q0 (vi r3) (q0 (vi r4) (q0 (vi r3) (q0 (vi r4) (wpL_nil (th_n (wpE_ret (res2 (.inl rfl) Try.results126 (v := (vi r3)) (by kernel_rfl) (v' := (vi r4)) (by kernel_rfl) ?_)))))))
  exact ⟨r3, r4, rfl, h⟩
def m_ref05_Pool_cut (p1 : Option Addr) (n1 : Int) (w0 : World) (K : World → Prop) : Prop :=
 ∃ a1 : Addr, p1 = some a1 ∧
 ∃ v1 : Sl, w0.cell? a1 = some v1.v ∧
 ∃ s1 : Sl, (Instr.sliceAt 72 v1.v none (some (vi n1)) none).run Try.prog w0 = .ok s1.v w0 ∧
 ∃ a2 : Addr, p1 = some a2 ∧
 CanW w0 a2 ∧ ∀ w1 : World, w1 = w0.setCell a2 s1.v →
 ∃ a3 : Addr, p1 = some a3 ∧
 ∃ v2 : Sl, w1.cell? (a3.add 1) = some v2.v ∧
 ∃ s2 : Sl, (Instr.sliceAt 73 v2.v none (some (vi n1)) none).run Try.prog w1 = .ok s2.v w1 ∧
 ∃ a4 : Addr, p1 = some a4 ∧
 CanW w1 (a4.add 1) ∧ ∀ w2 : World, w2 = w1.setCell (a4.add 1) s2.v →
 ∃ a5 : Addr, p1 = some a5 ∧
 ∃ v3 : Sl, w2.cell? (a5.add 2) = some v3.v ∧
 ∃ s3 : Sl, (Instr.sliceAt 73 v3.v none (some (vi n1)) none).run Try.prog w2 = .ok s3.v w2 ∧
 ∃ a6 : Addr, p1 = some a6 ∧
 CanW w2 (a6.add 2) ∧ ∀ w3 : World, w3 = w2.setCell (a6.add 2) s3.v →
 K w3
theorem w_ref05_Pool_cut (p1 : Option Addr) (n1 : Int) (w0 : World) (K : World → Prop) (h : m_ref05_Pool_cut p1 n1 w0 K) :
  Calls Try.prog 127 #[(vp p1), (vi n1)] w0 (fun e w' => e = .returned (.tuple #[]) ∧ K  w') := by
 unfold m_ref05_Pool_cut at h
 refine calls_of_wpE (args := [(vp p1), (vi n1)]) Try.func127 rfl Try.ntmps127 (Nat.le_of_ble_eq_true rfl) (wpE_seq (rg (q0 (vp p1) (q0 (vp p1) ?_))))
 obtain ⟨a1, hp1, h⟩ := h
 refine q2 (vp (some a1)) (x_nilCheck (p := p1) (by kernel_rfl) hp1) (q0 (vp (some a1)) ?_)
 obtain ⟨v1, hv6, h⟩ := h
 refine q2 v1.v (xl (Try.isAgg72 _) hv6) (q0 (vi n1) ?_)
 obtain ⟨s1, hv5, h⟩ := h
 refine q2 s1.v (x_slice (by kernel_rfl) (by kernel_rfl) (by kernel_rfl) (by kernel_rfl) hv5) ?_
 obtain ⟨a2, hp2, h⟩ := h
 refine q2 (vp (some a2)) (x_nilCheck (p := p1) (by kernel_rfl) hp2) (q0 (vp (some a2)) ?_)
 obtain ⟨hp3, h⟩ := h
 refine st_set (want0 rfl) (x_store (a := a2) (v := s1.v) (by kernel_rfl) (by kernel_rfl) rfl (Try.sizeOf72 _) hp3) ?_
 intro w1 hn1
 replace h := h w1 hn1
 refine wpL_nil (th_n (wpE_seq (rg (q0 (vp p1) (q0 (vp p1) ?_)))))
 obtain ⟨a3, hp4, h⟩ := h
 refine q2 (vp (some a3)) (x_nilCheck (p := p1) (by kernel_rfl) hp4) (q0 (vp (some (a3.add 1))) ?_)
 obtain ⟨v2, hv4, h⟩ := h
 refine q2 v2.v (xl (Try.isAgg73 _) hv4) (q0 (vi n1) ?_)
 obtain ⟨s2, hv3, h⟩ := h
 refine q2 s2.v (x_slice (by kernel_rfl) (by kernel_rfl) (by kernel_rfl) (by kernel_rfl) hv3) ?_
 obtain ⟨a4, hp5, h⟩ := h
 refine q2 (vp (some a4)) (x_nilCheck (p := p1) (by kernel_rfl) hp5) (q0 (vp (some (a4.add 1))) ?_)
 obtain ⟨hp6, h⟩ := h
 refine st_set (want0 rfl) (x_store (a := (a4.add 1)) (v := s2.v) (by kernel_rfl) (by kernel_rfl) rfl (Try.sizeOf73 _) hp6) ?_
 intro w2 hn2
 replace h := h w2 hn2
 refine wpL_nil (th_n (rg (q0 (vp p1) (q0 (vp p1) ?_))))
 obtain ⟨a5, hp7, h⟩ := h
 refine q2 (vp (some a5)) (x_nilCheck (p := p1) (by kernel_rfl) hp7) (q0 (vp (some (a5.add 2))) ?_)
 obtain ⟨v3, hv2, h⟩ := h
 refine q2 v3.v (xl (Try.isAgg73 _) hv2) (q0 (vi n1) ?_)
 obtain ⟨s3, hv1, h⟩ := h
 refine q2 s3.v (x_slice (by kernel_rfl) (by kernel_rfl) (by kernel_rfl) (by kernel_rfl) hv1) ?_
 obtain ⟨a6, hp8, h⟩ := h
 refine q2 (vp (some a6)) (x_nilCheck (p := p1) (by kernel_rfl) hp8) (q0 (vp (some (a6.add 2))) ?_)
 obtain ⟨hp9, h⟩ := h
 refine st_set (want0 rfl) (x_store (a := (a6.add 2)) (v := s3.v) (by kernel_rfl) (by kernel_rfl) rfl (Try.sizeOf73 _) hp9) ?_
 intro w3 hn3
 replace h := h w3 hn3
 refine wpL_nil (res0 (.inr rfl) Try.results127 ?_)
 exact ⟨rfl, h⟩
def m_ref05_Pool_Of (p1 : Option Addr) (aI aJ : Int) (aK aL : Int) (aM : ByteArray) (aH : Sl) (w0 : World) (K : Int → Int → World → Prop) : Prop :=
 ∀ (H1 : Nat → Prop) (w1 : World), Hst w0 None w0 H1 w1 →
 Calls Try.prog 125 #[(.agg #[(vi aI), (vi aJ), (vi aK), (vu aL), (vs aM), aH.v])] w1 (fun e w2 => ∃ r1 : Int, e = .returned (vi r1) ∧ 
  Kept H1 w1 w2 ∧
  Br (r1 != 0)
   (K 0 r1 w2)
   (∃ a1 : Addr, p1 = some a1 ∧
   ∃ v1 : Sl, w2.cell? a1 = some v1.v ∧
   Calls Try.prog 126 #[(vp p1), (.agg #[(vi aI), (vi aJ), (vi aK), (vu aL), (vs aM), aH.v])] w2 (fun e w3 => ∃ r2 r3 : Int, e = .returned (.tuple #[(vi r2), (vi r3)]) ∧ 
    Kept H1 w2 w3 ∧
    Br (r3 != 0)
     (Calls Try.prog 127 #[(vp p1), (vi (v1.len : Int))] w3 (fun e w4 => e = .returned (.tuple #[]) ∧ 
      Kept H1 w3 w4 ∧
      K r2 r3 w4))
     (K r2 r3 w3))))
theorem w_ref05_Pool_Of (p1 : Option Addr) (aI aJ : Int) (aK aL : Int) (aM : ByteArray) (aH : Sl) (w0 : World) (K : Int → Int → World → Prop) (h : m_ref05_Pool_Of p1 aI aJ aK aL aM aH w0 K) :
  Calls Try.prog 77 #[(vp p1), (.agg #[(vi aI), (vi aJ), (vi aK), (vu aL), (vs aM), aH.v])] w0 (fun e w' => ∃ r4 r5 : Int, e = .returned (.tuple #[(vi r4), (vi r5)]) ∧ K r4 r5 w') := by
 unfold m_ref05_Pool_Of at h
 refine calls_of_wpE (args := [(vp p1), (.agg #[(vi aI), (vi aJ), (vi aK), (vu aL), (vs aM), aH.v])]) Try.func77 rfl Try.ntmps77 (Nat.le_of_ble_eq_true rfl) ?_
 have hs := Hst.start w0
 have hb := HB.nil None w0
 refine wpE_seq (rg (sn (O := (.cells #[(vi aI), (vi aJ), (vi aK), (vu aL), (vs aM), aH.v] 116)) xb ?_))
 intro p2 w1 hn1
 obtain ⟨H1, hs, hb⟩ := hs.alloc hb hn1
 refine q0 (vi 0) (q0 (vi 0) (wpL_nil (th_n (wpE_seq (rg (q2 (.agg #[(vi aI), (vi aJ), (vi aK), (vu aL), (vs aM), aH.v]) (x_loadA (a := p2) (vs := [(vi aI), (vi aJ), (vi aK), (vu aL), (vs aM), aH.v]) (by kernel_rfl) (Try.isAgg116 _) (Try.sizeOf116 _) rfl (hb.row0 0 6 gZ (by kernel_rfl))) ?_))))))
 replace h := h H1 w1 hs
 replace hs := hs.here
 refine st_call (want0 rfl) (xc Try.call125) (h.mono ?_)
 rintro e w2 ⟨r1, rfl, hk, h⟩
 refine ⟨_, rfl, ?_⟩
 obtain ⟨hs, hb⟩ := hk.hh hs hb
 refine q0 (vi r1) (wpL_nil (th_n (wpE_seq (wpE_seq (rg (q0 (vi r1) (q0 (vb (r1 != 0)) (wpL_nil (th_n ?_)))))))))
 refine wpE_cond (t := (r1 != 0)) (by kernel_rfl) (fun hc1 => ?_) (fun hc1 => ?_)
 ·replace h := h.1 hc1
  refine wpE_seq (rg (q0 (vi r1) (q0 (vi 0) (q0 (vi r1) (wpL_nil (th_n (wpE_ret (th_r (res2 (.inl rfl) Try.results77 (v := (vi 0)) (by kernel_rfl) (v' := (vi r1)) (by kernel_rfl) ?_)))))))))
  exact ⟨0, r1, rfl, h⟩
 ·replace h := h.2 hc1
  refine wpE_skip (th_n (wpE_seq (rg (q0 (vp p1) ?_))))
  obtain ⟨a1, hp1, h⟩ := h
  refine q2 (vp (some a1)) (x_nilCheck (p := p1) (by kernel_rfl) hp1) (q0 (vp (some a1)) ?_)
  obtain ⟨v1, hv1, h⟩ := h
  refine q2 v1.v (xl (Try.isAgg72 _) hv1) (q0 (vi (v1.len : Int)) (q0 (vi (v1.len : Int)) (wpL_nil (th_n (wpE_seq (rg (q0 (vp p1) (q2 (.agg #[(vi aI), (vi aJ), (vi aK), (vu aL), (vs aM), aH.v]) (x_loadA (a := p2) (vs := [(vi aI), (vi aJ), (vi aK), (vu aL), (vs aM), aH.v]) (by kernel_rfl) (Try.isAgg116 _) (Try.sizeOf116 _) rfl (hb.row0 0 6 gZ (by kernel_rfl))) ?_))))))))
  refine st_call (want0 rfl) (xc Try.call126) (h.mono ?_)
  rintro e w3 ⟨r2, r3, rfl, hk, h⟩
  refine ⟨_, rfl, ?_⟩
  obtain ⟨hs, hb⟩ := hk.hh hs hb
  refine q0 (.tuple #[(vi r2), (vi r3)]) (q0 (vi r2) (q0 (vi r3) (q0 (vi r2) (q0 (vi r3) (wpL_nil (th_n (wpE_seq (wpE_seq (rg (q0 (vi r3) (q0 (vb (r3 != 0)) ?_)))))))))))
  refine wpL_nil (th_n ?_)
  refine wpE_cond (t := (r3 != 0)) (by kernel_rfl) (fun hc2 => ?_) (fun hc2 => ?_)
  ·replace h := h.1 hc2
   refine rg (q0 (vp p1) (q0 (vi (v1.len : Int)) ?_))
   refine st_call (want0 rfl) (xc Try.call127) (h.mono ?_)
   rintro e w4 ⟨rfl, hk, h⟩
   refine ⟨_, rfl, ?_⟩
   obtain ⟨hs, hb⟩ := hk.hh hs hb
   refine wpL_nil (th_n (wpE_seq (rg (q0 (vi r2) (q0 (vi r3) (q0 (vi r2) (q0 (vi r3) (wpL_nil (th_n (wpE_ret (res2 (.inl rfl) Try.results77 (v := (vi r2)) (by kernel_rfl) (v' := (vi r3)) (by kernel_rfl) ?_)))))))))))
   exact ⟨r2, r3, rfl, h⟩
  ·replace h := h.2 hc2
   refine wpE_skip (th_n (wpE_seq (rg (q0 (vi r2) (q0 (vi r3) (q0 (vi r2) (q0 (vi r3) (wpL_nil (th_n (wpE_ret (res2 (.inl rfl) Try.results77 (v := (vi r2)) (by kernel_rfl) (v' := (vi r3)) (by kernel_rfl) ?_)))))))))))
   exact ⟨r2, r3, rfl, h⟩
def m_ref05_Walk_over_j1 (w1 : Option Addr) (t1 : Int) (x1 : Bool) (w : World) (K : World → Prop) : Prop :=
 Br x1
  (K w)
  (∃ a1 : Addr, w1 = some a1 ∧
  ∃ v1 : Sl, w.cell? (a1.add 1) = some v1.v ∧
  ∃ a2 : Addr, At v1 t1 1 a2 ∧
  CanW w a2 ∧ ∀ w2 : World, w2 = w.setCell a2 (vb true) →
  ∃ a3 : Addr, w1 = some a3 ∧
  ∃ v2 : Option Addr, w2.cell? a3 = some (vp v2) ∧
  ∃ a4 : Addr, v2 = some a4 ∧
  ∃ v3 : Sl, w2.cell? a4 = some v3.v ∧
  ∃ a5 : Addr, At v3 (IntKind.i64.wrap (t1 - 1)) 7 a5 ∧
  ∃ v4 : Int, w2.cell? (a5.add 5) = some (vi v4) ∧
  Calls Try.prog 144 #[(vp w1), (vi v4)] w2 (fun e w3 => e = .returned (.tuple #[]) ∧ 
   ∃ a6 : Addr, w1 = some a6 ∧
   ∃ v5 : Option Addr, w3.cell? a6 = some (vp v5) ∧
   ∃ a7 : Addr, v5 = some a7 ∧
   ∃ v6 : Sl, w3.cell? a7 = some v6.v ∧
   ∃ a8 : Addr, At v6 (IntKind.i64.wrap (t1 - 1)) 7 a8 ∧
   ∃ v7 : Int, w3.cell? (a8.add 6) = some (vi v7) ∧
   Calls Try.prog 144 #[(vp w1), (vi v7)] w3 (fun e w4 => e = .returned (.tuple #[]) ∧ 
    ∃ a9 : Addr, w1 = some a9 ∧
    ∃ v8 : Sl, w4.cell? (a9.add 2) = some v8.v ∧
    ∀ (p1 : Addr) (w5 : World), New w4 (.cells #[(vi t1)] 41) p1 w5 →
    ∃ s1 : Sl, ∃ w6 : World, (Builtin.append_ #[26, 26] 26 #[v8.v, (Sl.mk (some p1) 1 1).v]).run Try.prog w5 = .ok s1.v w6 ∧
    ∃ a10 : Addr, w1 = some a10 ∧
    CanW w6 (a10.add 2) ∧ ∀ w7 : World, w7 = w6.setCell (a10.add 2) s1.v →
    K w7)))
def m_ref05_Walk_over (w1 : Option Addr) (t1 : Int) (w0 : World) (K : World → Prop) : Prop :=
 ∃ a11 : Addr, w1 = some a11 ∧
 ∃ v9 : Option Addr, w0.cell? a11 = some (vp v9) ∧
 Calls Try.prog 94 #[(vp v9), (vi t1)] w0 (fun e w8 => ∃ r1 : Bool, e = .returned (vb r1) ∧ 
  Br (!r1)
   (m_ref05_Walk_over_j1 w1 t1 true w8 K)
   (∃ a12 : Addr, w1 = some a12 ∧
   ∃ v10 : Sl, w8.cell? (a12.add 1) = some v10.v ∧
   ∃ a13 : Addr, At v10 t1 1 a13 ∧
   ∃ v11 : Bool, w8.cell? a13 = some (vb v11) ∧
   m_ref05_Walk_over_j1 w1 t1 v11 w8 K))
theorem w_ref05_Walk_over (w1 : Option Addr) (t1 : Int) (w0 : World) (K : World → Prop) (h : m_ref05_Walk_over w1 t1 w0 K) :
  Calls Try.prog 144 #[(vp w1), (vi t1)] w0 (fun e w' => e = .returned (.tuple #[]) ∧ K  w') := by
 unfold m_ref05_Walk_over at h
 refine calls_of_wpE (args := [(vp w1), (vi t1)]) Try.func144 rfl Try.ntmps144 (Nat.le_of_ble_eq_true rfl) (wpE_seq (wpE_seq ?_))
 refine wpE_joinT (fun ρ w => ∃ x1 : Bool, Has ρ [(0, (vp w1)), (1, (vi t1)), (19, (vb x1))] ∧ m_ref05_Walk_over_j1 w1 t1 x1 w K) ?_ ?_
 ·rintro ρ w ⟨x1, hH, h⟩
  unfold m_ref05_Walk_over_j1 at h
  refine wpE_has hH ?_
  clear hH
  refine wpE_cond (t := x1) (by kernel_rfl) (fun hc1 => ?_) (fun hc1 => ?_)
  ·replace h := h.1 hc1
   refine wpE_ret (th_r (res0 (.inl rfl) Try.results144 ?_))
   exact ⟨rfl, h⟩
  ·replace h := h.2 hc1
   refine wpE_skip (th_n (wpE_seq (rg (q0 (vp w1) ?_))))
   obtain ⟨a1, hp1, h⟩ := h
   refine q2 (vp (some a1)) (x_nilCheck (p := w1) (by kernel_rfl) hp1) (q0 (vp (some (a1.add 1))) ?_)
   obtain ⟨v1, hv12, h⟩ := h
   refine q2 v1.v (xl (Try.isAgg70 _) hv12) (q0 (vi t1) ?_)
   obtain ⟨a2, hv11, h⟩ := h
   refine q2 (vp (some a2)) (x_indexAddr (s := v1) (k := .i64) (i := t1) (by kernel_rfl) (by kernel_rfl) (Try.runUnderlying70 _) (Try.sizeOf4 _) hv11) ?_
   obtain ⟨hp2, h⟩ := h
   refine st_set (want0 rfl) (x_store (a := a2) (v := (vb true)) (by kernel_rfl) (by kernel_rfl) rfl (Try.sizeOf4 _) hp2) ?_
   intro w2 hn1
   replace h := h w2 hn1
   refine wpL_nil (th_n (wpE_seq (rg (q0 (vp w1) (q0 (vp w1) ?_)))))
   obtain ⟨a3, hp3, h⟩ := h
   refine q2 (vp (some a3)) (x_nilCheck (p := w1) (by kernel_rfl) hp3) (q0 (vp (some a3)) ?_)
   obtain ⟨v2, hv10, h⟩ := h
   refine q2 (vp v2) (xl (Try.isAgg59 _) hv10) ?_
   obtain ⟨a4, hp4, h⟩ := h
   refine q2 (vp (some a4)) (x_nilCheck (p := v2) (by kernel_rfl) hp4) (q0 (vp (some a4)) ?_)
   obtain ⟨v3, hv9, h⟩ := h
   refine q2 v3.v (xl (Try.isAgg72 _) hv9) (q0 (vi t1) (q0 (vi (IntKind.i64.wrap (t1 - 1))) ?_))
   obtain ⟨a5, hv8, h⟩ := h
   refine q2 (vp (some a5)) (x_indexAddr (s := v3) (k := .i64) (i := (IntKind.i64.wrap (t1 - 1))) (by kernel_rfl) (by kernel_rfl) (Try.runUnderlying72 _) (Try.sizeOf93 _) hv8) (q0 (vp (some (a5.add 5))) ?_)
   obtain ⟨v4, hv7, h⟩ := h
   refine q2 (vi v4) (xl (Try.isAgg41 _) hv7) ?_
   refine st_call (want0 rfl) (xc Try.call144) (h.mono ?_)
   rintro e w3 ⟨rfl, h⟩
   refine ⟨_, rfl, ?_⟩
   refine wpL_nil (th_n (wpE_seq (rg (q0 (vp w1) (q0 (vp w1) ?_)))))
   obtain ⟨a6, hp5, h⟩ := h
   refine q2 (vp (some a6)) (x_nilCheck (p := w1) (by kernel_rfl) hp5) (q0 (vp (some a6)) ?_)
   obtain ⟨v5, hv6, h⟩ := h
   refine q2 (vp v5) (xl (Try.isAgg59 _) hv6) ?_
   obtain ⟨a7, hp6, h⟩ := h
   refine q2 (vp (some a7)) (x_nilCheck (p := v5) (by kernel_rfl) hp6) (q0 (vp (some a7)) ?_)
   obtain ⟨v6, hv5, h⟩ := h
   refine q2 v6.v (xl (Try.isAgg72 _) hv5) (q0 (vi t1) (q0 (vi (IntKind.i64.wrap (t1 - 1))) ?_))
   obtain ⟨a8, hv4, h⟩ := h
   refine q2 (vp (some a8)) (x_indexAddr (s := v6) (k := .i64) (i := (IntKind.i64.wrap (t1 - 1))) (by kernel_rfl) (by kernel_rfl) (Try.runUnderlying72 _) (Try.sizeOf93 _) hv4) (q0 (vp (some (a8.add 6))) ?_)
   obtain ⟨v7, hv3, h⟩ := h
   refine q2 (vi v7) (xl (Try.isAgg41 _) hv3) ?_
   refine st_call (want0 rfl) (xc Try.call144) (h.mono ?_)
   rintro e w4 ⟨rfl, h⟩
   refine ⟨_, rfl, ?_⟩
   refine wpL_nil (th_n (rg (q0 (vp w1) (q0 (vp w1) ?_))))
   obtain ⟨a9, hp7, h⟩ := h
   refine q2 (vp (some a9)) (x_nilCheck (p := w1) (by kernel_rfl) hp7) (q0 (vp (some (a9.add 2))) ?_)
   obtain ⟨v8, hv2, h⟩ := h
   refine q2 v8.v (xl (Try.isAgg26 _) hv2) (q0 (vi t1) (st_new (O := (.cells #[(vi t1)] 41)) (fun p => (Sl.mk (some p) 1 1).v) (want0 rfl) (x_buildSlice (vs := #[(0, (vi t1))]) (by kernel_rfl) (by kernel_rfl)) ?_))
   intro p1 w5 hn3
   replace h := h p1 w5 hn3
   obtain ⟨s1, w6, hv1, h⟩ := h
   refine st (v := s1.v) (want0 rfl) (x_builtin (args := #[v8.v, (Sl.mk (some p1) 1 1).v]) (by kernel_rfl) (fun _ => rfl) hv1) ?_
   obtain ⟨a10, hp8, h⟩ := h
   refine q2 (vp (some a10)) (x_nilCheck (p := w1) (by kernel_rfl) hp8) (q0 (vp (some (a10.add 2))) ?_)
   obtain ⟨hp9, h⟩ := h
   refine st_set (want0 rfl) (x_store (a := (a10.add 2)) (v := s1.v) (by kernel_rfl) (by kernel_rfl) rfl (Try.sizeOf26 _) hp9) ?_
   intro w7 hn2
   replace h := h w7 hn2
   refine wpL_nil (res0 (.inr rfl) Try.results144 ?_)
   exact ⟨rfl, h⟩
 ·skip
  refine rg (q0 (vp w1) ?_)
  obtain ⟨a11, hp10, h⟩ := h
  refine q2 (vp (some a11)) (x_nilCheck (p := w1) (by kernel_rfl) hp10) (q0 (vp (some a11)) ?_)
  obtain ⟨v9, hv16, h⟩ := h
  refine q2 (vp v9) (xl (Try.isAgg59 _) hv16) (q0 (vi t1) ?_)
  refine st_call (want0 rfl) (xc Try.call94) (h.mono ?_)
  rintro e w8 ⟨r1, rfl, h⟩
  refine ⟨_, rfl, ?_⟩
  refine q0 (vb (!r1)) (q0 (vb (!r1)) ?_)
  rcases Bool.eq_false_or_eq_true (!r1) with hg1 | hg1
  ·replace h := h.1 hg1
   refine sk (yD 11 hg1) (sk (yD 11 hg1) (sk (yD 11 hg1) (sk (yD 11 hg1) (sk (yD 11 hg1) (sk (yD 11 hg1) (sk (yD 11 hg1) (q2 (vb true) (xT hg1) (wpL_nil (th_n ?_)))))))))
   exact ⟨true, Has.mk (by kernel_rfl), h⟩
  ·replace h := h.2 hg1
   refine q1 (vp w1) (want1 rfl (yD 11 hg1)) ?_
   obtain ⟨a12, hp11, h⟩ := h
   refine stp (v := (vp (some a12))) (want1 rfl (yD 11 hg1)) (x_nilCheck (p := w1) (by kernel_rfl) hp11) (q1 (vp (some (a12.add 1))) (want1 rfl (yD 11 hg1)) ?_)
   obtain ⟨v10, hv15, h⟩ := h
   refine stp (v := v10.v) (want1 rfl (yD 11 hg1)) (xl (Try.isAgg70 _) hv15) (q1 (vi t1) (want1 rfl (yD 11 hg1)) ?_)
   obtain ⟨a13, hv14, h⟩ := h
   refine stp (v := (vp (some a13))) (want1 rfl (yD 11 hg1)) (x_indexAddr (s := v10) (k := .i64) (i := t1) (by kernel_rfl) (by kernel_rfl) (Try.runUnderlying70 _) (Try.sizeOf4 _) hv14) ?_
   obtain ⟨v11, hv13, h⟩ := h
   refine stp (v := (vb v11)) (want1 rfl (yD 11 hg1)) (xl (Try.isAgg4 _) hv13) (q2 (vb v11) (xF hg1) (wpL_nil (th_n ?_)))
   exact ⟨v11, Has.mk (by kernel_rfl), h⟩
def m_ref05_Pool_Subs (p1 : Option Addr) (t1 : Int) (w0 : World) (K : Sl → World → Prop) : Prop :=
 ∃ a1 : Addr, p1 = some a1 ∧
 ∃ v1 : Sl, w0.cell? a1 = some v1.v ∧
 ∃ s1 : Sl, ∃ w1 : World, (Instr.makeSlice 70 (vi (IntKind.i64.wrap ((v1.len : Int) + 1))) (vi (IntKind.i64.wrap ((v1.len : Int) + 1)))).run Try.prog w0 = .ok s1.v w1 ∧
 ∀ (p2 : Addr) (w2 : World), New w1 (.cells #[(vp p1), s1.v, Sl.nil.v] 221) p2 w2 →
 Calls Try.prog 144 #[(vp (some p2)), (vi t1)] w2 (fun e w3 => e = .returned (.tuple #[]) ∧ 
  ∃ v2 : Sl, w3.cell? (p2.add 2) = some v2.v ∧
  K v2 w3)
theorem w_ref05_Pool_Subs (p1 : Option Addr) (t1 : Int) (w0 : World) (K : Sl → World → Prop) (h : m_ref05_Pool_Subs p1 t1 w0 K) :
  Calls Try.prog 102 #[(vp p1), (vi t1)] w0 (fun e w' => ∃ r1 : Sl, e = .returned r1.v ∧ K r1 w') := by
 unfold m_ref05_Pool_Subs at h
 refine calls_of_wpE (args := [(vp p1), (vi t1)]) Try.func102 rfl Try.ntmps102 (Nat.le_of_ble_eq_true rfl) (wpE_seq (rg (q0 Sl.nil.v (wpL_nil (th_n (wpE_seq (rg (q0 (vp p1) (q0 (vp p1) ?_)))))))))
 obtain ⟨a1, hp1, h⟩ := h
 refine q2 (vp (some a1)) (x_nilCheck (p := p1) (by kernel_rfl) hp1) (q0 (vp (some a1)) ?_)
 obtain ⟨v1, hv3, h⟩ := h
 refine q2 v1.v (xl (Try.isAgg72 _) hv3) (q0 (vi (v1.len : Int)) (q0 (vi (IntKind.i64.wrap ((v1.len : Int) + 1))) ?_))
 obtain ⟨s1, w1, hv2, h⟩ := h
 refine st (v := s1.v) (want0 rfl) (x_makeSlice (by kernel_rfl) (by kernel_rfl) hv2) (q0 (.agg #[(vp p1), s1.v, Sl.nil.v]) (sn (O := (.cells #[(vp p1), s1.v, Sl.nil.v] 221)) xb ?_))
 intro p2 w2 hn1
 replace h := h p2 w2 hn1
 refine q0 (vp (some p2)) (wpL_nil (th_n (wpE_seq (rg (q0 (vp (some p2)) (q0 (vi t1) ?_))))))
 refine st_call (want0 rfl) (xc Try.call144) (h.mono ?_)
 rintro e w3 ⟨rfl, h⟩
 refine ⟨_, rfl, ?_⟩
 refine wpL_nil (th_n (wpE_seq (rg (q0 (vp (some p2)) (q0 (vp (some p2)) (q0 (vp (some (p2.add 2))) ?_))))))
 obtain ⟨v2, hv1, h⟩ := h
 refine q2 v2.v (xl (Try.isAgg26 _) hv1) (q0 v2.v (wpL_nil (th_n (wpE_ret (res1 (.inl rfl) Try.results102 (v := v2.v) (by kernel_rfl) ?_)))))
 exact ⟨v2, rfl, h⟩
end Go.Proofs
end
section
open Go Go.SE
namespace Go.Proofs
attribute [local irreducible] Calls
theorem kind_cases (k : Int) : (k = 1 ∨ k = 2 ∨ k = 3 ∨ k = 4 ∨ k = 5 ∨ k = 6 ∨ k = 7 ∨ k = 8 ∨ k = 9) ∨ (Sp.shapeOf k = Sp.noShape ∧ Sp.isKind k = false ∧ ∀ m : Int, 1 ≤ m → m ≤ 9 → (k == m) = false) := by
 by_cases h : k = 1 ∨ k = 2 ∨ k = 3 ∨ k = 4 ∨ k = 5 ∨ k = 6 ∨ k = 7 ∨ k = 8 ∨ k = 9
 ·exact .inl h
 ·right
  refine ⟨?_, ?_, fun m h1 h2 => ?_⟩
  ·unfold Sp.shapeOf; repeat rw [if_neg (by omega)]
  ·unfold Sp.isKind; apply Bool.eq_false_iff.2; intro h3; simp at h3; omega
  ·rw [beq_eq_false_iff_ne]; omega
theorem ref05_kids (k : Int) : s_ref05_Kids k = (Sp.shapeOf k).kids := by
 rcases kind_cases k with h | ⟨h, _, hm⟩
 ·rcases h with rfl | rfl | rfl | rfl | rfl | rfl | rfl | rfl | rfl <;> decide
 ·rw [h]; unfold s_ref05_Kids; simp [hm, Sp.noShape]
theorem ref05_named (k : Int) : s_ref05_named k = (Sp.shapeOf k).frm := by
 rcases kind_cases k with h | ⟨h, _, hm⟩
 ·rcases h with rfl | rfl | rfl | rfl | rfl | rfl | rfl | rfl | rfl <;> decide
 ·rw [h]; unfold s_ref05_named; simp [hm, Sp.noShape]
theorem shape_two (k : Int) : ((k == 8) || (k == 9)) = (Sp.shapeOf k).to := by
 rcases kind_cases k with h | ⟨h, _, hm⟩
 ·rcases h with rfl | rfl | rfl | rfl | rfl | rfl | rfl | rfl | rfl <;> decide
 ·rw [h]; simp [hm, Sp.noShape]
theorem shape_num (k : Int) : (k == 2) = (Sp.shapeOf k).num := by
 rcases kind_cases k with h | ⟨h, _, hm⟩
 ·rcases h with rfl | rfl | rfl | rfl | rfl | rfl | rfl | rfl | rfl <;> decide
 ·rw [h]; simp [hm, Sp.noShape]
theorem shape_text (k : Int) : (k == 3) = (Sp.shapeOf k).text := by
 rcases kind_cases k with h | ⟨h, _, hm⟩
 ·rcases h with rfl | rfl | rfl | rfl | rfl | rfl | rfl | rfl | rfl <;> decide
 ·rw [h]; simp [hm, Sp.noShape]
theorem shape_kind (k : Int) : (!(decide (k < 1) || decide (k > 9))) = Sp.isKind k := by
 unfold Sp.isKind
 by_cases h1 : k < 1 <;> by_cases h2 : k > 9 <;> simp [h1, h2] <;> omega
theorem ite53 (q : Bool) : decide ((if q = true then (53 : Int) else 0) = 0) = !q := by cases q <;> rfl
def Sp.nodeErr (n : Sp.Node) : Int :=
 if Sp.plainErr n ≠ 0 then 53 else if (decide ((Sp.shapeOf n.kind).kids < 1) && n.a != 0) || (decide ((Sp.shapeOf n.kind).kids < 2) && n.b != 0) then 53 else Sp.fieldsErr (Sp.shapeOf n.kind) n
theorem ref05_plain (n : Sp.Node) : s_ref05_plain n.kind n.frm n.to n.num n.text n.a n.b = (decide (Sp.plainErr n = 0) && !((decide ((Sp.shapeOf n.kind).kids < 1) && n.a != 0) || (decide ((Sp.shapeOf n.kind).kids < 2) && n.b != 0))) := by
 obtain ⟨k, f, t, u, x, a, b⟩ := n
 unfold s_ref05_plain Sp.plainErr
 simp only [ref05_kids, ref05_named, shape_two k, shape_num k, shape_text k, shape_kind]
 have hk := Sp.kids_le k
 generalize Sp.shapeOf k = s at *
 obtain ⟨s1, s2, s3, s4, s5⟩ := s
 generalize Sp.isKind k = i
 have e1 : decide (s5 ≥ 1) = !decide (s5 < 1) := by by_cases h : s5 < 1 <;> simp [h] <;> omega
 have e2 : (s5 == 2) = !decide (s5 < 2) := by
  by_cases h : s5 < 2
  ·simp [h]; omega
  ·simp [h]; simp at hk; omega
 simp only [e1, e2, bne, ite53]
 generalize (f == 0) = c1; generalize (t == 0) = c2; generalize (u == 0) = c3; generalize decide (x = ⟨#[]⟩) = c4; generalize (a == 0) = c5; generalize (b == 0) = c6; generalize decide (s5 < 1) = c7; generalize decide (s5 < 2) = c8
 cases i <;> cases s1 <;> cases s2 <;> cases s3 <;> cases s4 <;> cases c1 <;> cases c2 <;> cases c3 <;> cases c4 <;> simp
theorem ref05_shape (n : Sp.Node) : s_ref05_shape n.kind n.frm n.to n.num n.text n.a n.b = Sp.nodeErr n := by
 unfold s_ref05_shape Sp.nodeErr
 rw [ref05_plain, ref05_named, shape_two]
 by_cases h1 : Sp.plainErr n = 0
 ·by_cases h2 : ((decide ((Sp.shapeOf n.kind).kids < 1) && n.a != 0) || (decide ((Sp.shapeOf n.kind).kids < 2) && n.b != 0)) = true
  ·rw [h2]; simp [h1]
  ·have h2 : ((decide ((Sp.shapeOf n.kind).kids < 1) && n.a != 0) || (decide ((Sp.shapeOf n.kind).kids < 2) && n.b != 0)) = false := by simpa using h2
   rw [h2]
   simp only [h1, ne_eq, not_true_eq_false, if_false, Bool.false_eq_true, decide_true, Bool.not_false, Bool.and_true, Bool.not_true, cond_false]
   unfold Sp.fieldsErr Sp.isName
   have e1 : (decide (n.frm ≥ 0) && decide (n.frm < 16)) = (decide (0 ≤ n.frm) && decide (n.frm < 16)) := rfl
   have e2 : (decide (n.to ≥ 0) && decide (n.to < 16)) = (decide (0 ≤ n.to) && decide (n.to < 16)) := rfl
   have e3 : (n.frm == n.to) = (n.to == n.frm) := by rw [Bool.eq_iff_iff]; simp only [beq_iff_eq]; exact eq_comm
   rw [e1, e2, e3]
   have e4 : decide (((n.text.size : Int)) > 64) = decide (n.text.size > 64) := decide_eq_decide.2 (by omega)
   rw [e4]
   generalize ((Sp.shapeOf n.kind).frm && !(decide (0 ≤ n.frm) && decide (n.frm < 16)) || (Sp.shapeOf n.kind).to && (!(decide (0 ≤ n.to) && decide (n.to < 16)) || n.to == n.frm)) = c
   cases c
   ·by_cases h : n.text.size > 64 <;> simp [h]
   ·rfl
 ·simp [h1]
end Go.Proofs
end
section
open Go Go.SE
namespace Go.Proofs
attribute [local irreducible] Calls
theorem slT_node : SlType Try.prog 72 93 7 64 := by
 refine ⟨Try.underlying72, ⟨Try.t93, _, by kernel_rfl, (by kernel_rfl : Try.t93.zero = some (.agg #[.int .i64 0, .int .i64 0, .int .i64 0, .int .u64 0, .string ⟨#[]⟩, .int .i64 0, .int .i64 0])), by kernel_rfl, by kernel_rfl, rfl⟩, by omega⟩
theorem slT_int : SlType Try.prog 73 3 1 8 := by
 refine ⟨Try.underlying73, ⟨Try.t3, _, by kernel_rfl, (by kernel_rfl : Try.t3.zero = some (.int .i64 0)), by kernel_rfl, by kernel_rfl, rfl⟩, by omega⟩
def rnode (e : Sp.Ent) : List Value := nrow e.node
def rsize (e : Sp.Ent) : List Value := [.int .i64 e.size]
def rdepth (e : Sp.Ent) : List Value := [.int .i64 e.depth]
structure PoolRS (w : World) (p : Addr) (L : Sp.Pool) (s1 s2 s3 : Sl) : Prop where
 box : Box w p [s1.v, s2.v, s3.v] 75
 r1 : Rws w 93 7 s1 (L.map rnode)
 r2 : Rws w 3 1 s2 (L.map rsize)
 r3 : Rws w 3 1 s3 (L.map rdepth)
 n1 : ¬ s1.blk p.block
 n2 : ¬ s2.blk p.block
 n3 : ¬ s3.blk p.block
 d12 : ∀ b, s1.blk b → ¬ s2.blk b
 d13 : ∀ b, s1.blk b → ¬ s3.blk b
 d23 : ∀ b, s2.blk b → ¬ s3.blk b
def PoolR (w : World) (p : Addr) (L : Sp.Pool) (F : Nat → Prop) : Prop := ∃ s1 s2 s3, PoolRS w p L s1 s2 s3 ∧ ∀ b, F b ↔ (b = p.block ∨ s1.blk b ∨ s2.blk b ∨ s3.blk b)
theorem PoolR.ext {G : Nat → Prop} {w w' : World} {p : Addr} {L : Sp.Pool} {F : Nat → Prop} (h : PoolR w p L F) (hE : Ext G w w') (hd : ∀ b, F b → ¬ G b) : PoolR w' p L F := by
 obtain ⟨s1, s2, s3, h, hF⟩ := h
 exact ⟨s1, s2, s3, ⟨h.box.ext hE (hd _ ((hF _).2 (.inl rfl))), h.r1.ext hE (fun b hb => hd _ ((hF _).2 (.inr (.inl hb)))), h.r2.ext hE (fun b hb => hd _ ((hF _).2 (.inr (.inr (.inl hb))))), h.r3.ext hE (fun b hb => hd _ ((hF _).2 (.inr (.inr (.inr hb))))), h.n1, h.n2, h.n3, h.d12, h.d13, h.d23⟩, hF⟩
theorem PoolR.pure {w w' : World} {p : Addr} {L : Sp.Pool} {F : Nat → Prop} (h : PoolR w p L F) (hE : Pure w w') : PoolR w' p L F := h.ext hE (fun _ _ h => h)
theorem PoolR.lt {w : World} {p : Addr} {L : Sp.Pool} {F : Nat → Prop} (h : PoolR w p L F) {b : Nat} (hb : F b) : b < w.heap.size := by
 obtain ⟨s1, s2, s3, h, hF⟩ := h
 rcases (hF b).1 hb with rfl | hb | hb | hb
 ·exact h.box.lt
 ·exact h.r1.lt hb
 ·exact h.r2.lt hb
 ·exact h.r3.lt hb
theorem c_ref05_New (w0 : World) : Calls Try.prog 75 #[] w0 (fun e w' => ∃ r : Option Addr, e = .returned (.pointer r) ∧ ∃ p F, r = some p ∧ PoolR w' p [] F ∧ Pure w0 w' ∧ ∀ b, F b → w0.heap.size ≤ b) := by
 refine w_ref05_New w0 (fun r w' => ∃ p F, r = some p ∧ PoolR w' p [] F ∧ Pure w0 w' ∧ ∀ b, F b → w0.heap.size ≤ b) ?_
 unfold m_ref05_New
 have hnil : ∀ b, ¬ Sl.nil.blk b := fun b hb => by obtain ⟨a, h, _⟩ := hb; cases h
 intro p w1 h1
 have b1 := Box.of_new h1
 have E1 : Pure w0 w1 := Ext.new h1
 first
  | exact ⟨p, (· = p.block), rfl, ⟨Sl.nil, Sl.nil, Sl.nil, ⟨b1, Rws.nil _ _ _, Rws.nil _ _ _, Rws.nil _ _ _, hnil _, hnil _, hnil _, fun b h => (hnil b h).elim, fun b h => (hnil b h).elim, fun b h => (hnil b h).elim⟩, fun b => by simp [hnil]⟩, E1, fun b hb => by subst hb; exact New.own (Ext.refl w0) h1⟩
  | skip
theorem c_ref05_In (p : Addr) (t : Int) (w0 : World) {L : Sp.Pool} {F : Nat → Prop} (hP : PoolR w0 p L F) : Calls Try.prog 94 #[.pointer (some p), .int .i64 t] w0 (fun e w' => ∃ r : Bool, e = .returned (.bool r) ∧ (r = Sp.inP L t ∧ w' = w0)) := by
 refine w_ref05_Pool_In _ _ w0 (fun r w' => r = Sp.inP L t ∧ w' = w0) ?_
 unfold m_ref05_Pool_In
 obtain ⟨s1, s2, s3, h, hF⟩ := hP
 have hl : s1.len = L.length := by rw [h.r1.len]; simp
 refine ⟨fun hc => ⟨p, rfl, s1, h.box.cell0, ?_, rfl⟩, fun hc => ⟨?_, rfl⟩⟩
 ·have := of_decide_eq_true hc
  rw [hl]; simp [Sp.inP, this]
 ·have := of_decide_eq_false hc
  simp [Sp.inP]; omega
theorem PoolRS.at1 {w : World} {p : Addr} {L : Sp.Pool} {s1 s2 s3 : Sl} (h : PoolRS w p L s1 s2 s3) {t : Int} (ht : Sp.inP L t = true) (hok : Sp.Ok L) : ∃ e, Sp.get L t = some e ∧
  (∃ a, At s1 (IntKind.i64.wrap (t - 1)) 7 a ∧ Row w a (rnode e)) ∧ (∃ a, At s2 (IntKind.i64.wrap (t - 1)) 1 a ∧ Row w a (rsize e)) ∧ (∃ a, At s3 (IntKind.i64.wrap (t - 1)) 1 a ∧ Row w a (rdepth e)) := by
 obtain ⟨e, he, _, hi, hLe⟩ := Sp.get_some ht
 have hin := Sp.inP_iff.1 ht
 have hf := hok.few
 have hw : IntKind.i64.wrap (t - 1) = ((t - 1).toNat : Int) := by rw [i64 (by omega) (by omega)]; omega
 obtain ⟨a1, h1, g1⟩ := h.r1.nth (j := (t - 1).toNat) hi
 obtain ⟨a2, h2, g2⟩ := h.r2.nth (j := (t - 1).toNat) hi
 obtain ⟨a3, h3, g3⟩ := h.r3.nth (j := (t - 1).toNat) hi
 rw [hLe] at g1 g2 g3
 rw [hw]
 exact ⟨e, he, ⟨a1, h1, g1⟩, ⟨a2, h2, g2⟩, ⟨a3, h3, g3⟩⟩
theorem c_ref05_Size (p : Addr) (t : Int) (w0 : World) {L : Sp.Pool} {F : Nat → Prop} (hP : PoolR w0 p L F) (hok : Sp.Ok L) : Calls Try.prog 128 #[.pointer (some p), .int .i64 t] w0 (fun e w' => ∃ r : Int, e = .returned (.int .i64 r) ∧ (r = Sp.sizeOf L t ∧ w' = w0)) := by
 refine w_ref05_Pool_Size _ _ w0 (fun r w' => r = Sp.sizeOf L t ∧ w' = w0) ?_
 unfold m_ref05_Pool_Size
 refine (c_ref05_In p t w0 hP).mono ?_
 rintro _ _ ⟨_, rfl, rfl, rfl⟩
 refine ⟨_, rfl, fun h => ⟨?_, rfl⟩, fun h => ?_⟩
 ·have h : Sp.inP L t = false := by simpa using h
  simp [Sp.sizeOf, Sp.get_none h]
 ·have h : Sp.inP L t = true := by simpa using h
  obtain ⟨s1, s2, s3, hS, hF⟩ := hP
  obtain ⟨e, he, _, ⟨a, hat, hr⟩, _⟩ := hS.at1 h hok
  exact ⟨p, rfl, s2, hS.box.cell rfl, a, hat, _, row_cell hr, by simp [Sp.sizeOf, he], rfl⟩
theorem c_ref05_Depth (p : Addr) (t : Int) (w0 : World) {L : Sp.Pool} {F : Nat → Prop} (hP : PoolR w0 p L F) (hok : Sp.Ok L) : Calls Try.prog 192 #[.pointer (some p), .int .i64 t] w0 (fun e w' => ∃ r : Int, e = .returned (.int .i64 r) ∧ (r = Sp.depthOf L t ∧ w' = w0)) := by
 refine w_ref05_Pool_Depth _ _ w0 (fun r w' => r = Sp.depthOf L t ∧ w' = w0) ?_
 unfold m_ref05_Pool_Depth
 refine (c_ref05_In p t w0 hP).mono ?_
 rintro _ _ ⟨_, rfl, rfl, rfl⟩
 refine ⟨_, rfl, fun h => ⟨?_, rfl⟩, fun h => ?_⟩
 ·have h : Sp.inP L t = false := by simpa using h
  simp [Sp.depthOf, Sp.get_none h]
 ·have h : Sp.inP L t = true := by simpa using h
  obtain ⟨s1, s2, s3, hS, hF⟩ := hP
  obtain ⟨e, he, _, _, ⟨a, hat, hr⟩⟩ := hS.at1 h hok
  exact ⟨p, rfl, s3, hS.box.cell rfl, a, hat, _, row_cell hr, by simp [Sp.depthOf, he], rfl⟩
theorem c_ref05_Node (p : Addr) (t : Int) (w0 : World) {L : Sp.Pool} {F : Nat → Prop} (hP : PoolR w0 p L F) (hok : Sp.Ok L) : Calls Try.prog 47 #[.pointer (some p), .int .i64 t] w0
  (fun e w' => ∃ k f t' u : Int, ∃ x : ByteArray, ∃ a b : Int, ∃ r : Bool, e = .returned (.tuple #[.agg #[.int .i64 k, .int .i64 f, .int .i64 t', .int .u64 u, .string x, .int .i64 a, .int .i64 b], .bool r]) ∧ (((⟨k, f, t', u, x, a, b⟩ : Sp.Node) = Sp.nodeOf L t ∧ r = Sp.inP L t) ∧ Pure w0 w')) := by
 refine w_ref05_Pool_Node _ _ w0 (fun k f t' u x a b r w' => ((⟨k, f, t', u, x, a, b⟩ : Sp.Node) = Sp.nodeOf L t ∧ r = Sp.inP L t) ∧ Pure w0 w') ?_
 unfold m_ref05_Pool_Node
 intro H1 w1 hs1
 have hP1 := hP.pure hs1.first
 refine (c_ref05_In p t w1 hP1).mono ?_
 rintro _ _ ⟨_, rfl, rfl, rfl⟩
 refine ⟨_, rfl, Kept.refl _, fun h => ?_, fun h => ?_⟩
 ·intro w3 hs3
  have h : Sp.inP L t = false := by simpa using h
  exact ⟨⟨by simp [Sp.nodeOf, Sp.get_none h, Sp.noNode], h.symm⟩, hs1.first.hst hs3⟩
 ·have h : Sp.inP L t = true := by simpa using h
  obtain ⟨s1, s2, s3, hS, hF⟩ := hP1
  obtain ⟨e, he, ⟨a, hat, hr⟩, _, _⟩ := hS.at1 h hok
  refine ⟨p, rfl, s1, hS.box.cell0, a, hat, _, _, _, _, _, _, _, hr, ?_⟩
  intro w4 hs4
  exact ⟨⟨by simp [Sp.nodeOf, he], h.symm⟩, hs1.first.hst hs4⟩
theorem node_eqB (m n : Sp.Node) : ((m.kind == n.kind) && ((m.frm == n.frm) && ((m.to == n.to) && ((m.num == n.num) && ((decide (m.text = n.text)) && ((m.a == n.a) && (m.b == n.b))))))) = decide (m = n) := by
 obtain ⟨k, f, t, u, x, a, b⟩ := m; obtain ⟨k', f', t', u', x', a', b'⟩ := n
 rw [Bool.eq_iff_iff]; simp
theorem c_ref05_Has (p : Addr) (n : Sp.Node) (w0 : World) {L : Sp.Pool} {F : Nat → Prop} (hP : PoolR w0 p L F) (hok : Sp.Ok L) : Calls Try.prog 49 #[.pointer (some p), nkey n] w0
  (fun e w' => ∃ r : Int, ∃ ok : Bool, e = .returned (.tuple #[.int .i64 r, .bool ok]) ∧ ((match Sp.find L n with | some i => r = (i : Int) + 1 ∧ ok = true | none => r = 0 ∧ ok = false) ∧ Pure w0 w')) := by
 obtain ⟨k, f, t, u, x, a, b⟩ := n
 generalize hn : (⟨k, f, t, u, x, a, b⟩ : Sp.Node) = n
 have hnk : nkey n = .agg #[.int .i64 k, .int .i64 f, .int .i64 t, .int .u64 u, .string x, .int .i64 a, .int .i64 b] := by rw [← hn]; rfl
 rw [hnk]
 suffices key : ∀ K : Int → Bool → World → Prop, (∀ r ok w', ((match Sp.find L n with | some i => r = (i : Int) + 1 ∧ ok = true | none => r = 0 ∧ ok = false) ∧ Pure w0 w') → K r ok w') → m_ref05_Pool_Has (some p) k f t u x a b w0 K from
  w_ref05_Pool_Has _ _ _ _ _ _ _ _ w0 _ (key _ (fun _ _ _ h => h))
 intro K hK
 unfold m_ref05_Pool_Has
 intro H1 w1 hs1
 refine ⟨fun i H w' => ∃ j : Nat, i = j ∧ j ≤ L.length ∧ Pure w0 w' ∧ ∀ q, q < j → ∀ e, L[q]? = some e → e.node ≠ n, fun i _ => ((L.length : Int) - i).toNat, ⟨0, rfl, Nat.zero_le _, hs1.first, fun q hq => absurd hq (by omega)⟩, ?_⟩
 rintro _ Hl wl hl ⟨j, rfl, hj, El, hno⟩
 unfold m_ref05_Pool_Has_l1
 obtain ⟨s1, s2, s3, hS, hF⟩ := hP.pure El
 have hf := hok.few
 have hlen : s1.len = L.length := by rw [hS.r1.len]; simp
 refine ⟨p, rfl, s1, hS.box.cell0, fun h => ?_, fun h => ?_⟩
 ·have hlt := lt_of_dec hlen h
  refine ⟨p, rfl, ?_⟩
  intro w2 hs2
  have E2 := El.hst hs2
  obtain ⟨s1', s2', s3', hS', _⟩ := hP.pure E2
  obtain ⟨a', hat, hr⟩ := hS'.r1.nth hlt
  refine ⟨s1', hS'.box.cell0, a', hat, _, _, _, _, _, _, _, hr, ?_⟩
  have hB := node_eqB L[j].node n
  rw [← hn] at hB
  simp only at hB
  rw [hB, hn]
  refine ⟨fun h => ?_, fun h => ?_⟩
  ·have h := of_decide_eq_true h
   rw [wrap_succ hlt (by omega)]
   refine hK _ _ _ ⟨?_, E2⟩
   have hfd : Sp.find L n = some j := by
    unfold Sp.find
    rw [List.findIdx?_eq_some_iff_getElem]
    exact ⟨hlt, by simp [h], fun q hq => by simpa using hno q hq _ (List.getElem?_eq_getElem (by omega))⟩
   rw [hfd]; exact ⟨by omega, rfl⟩
  ·have h := of_decide_eq_false h
   rw [wrap_succ hlt (by omega)]
   refine ⟨⟨j + 1, rfl, hlt, E2, fun q hq e he => ?_⟩, lt_dec hlt⟩
   by_cases hqj : q = j
   ·subst hqj; rw [List.getElem?_eq_getElem hlt] at he; cases he; exact h
   ·exact hno q (by omega) e he
 ·have hge := eq_of_dec hlen hj h
  subst hge
  refine hK _ _ _ ⟨?_, El⟩
  have hfd : Sp.find L n = none := find_none (fun e he => by
   obtain ⟨q, hq, rfl⟩ := List.mem_iff_getElem.1 he
   exact hno q hq _ (List.getElem?_eq_getElem hq))
  rw [hfd]; exact ⟨rfl, rfl⟩
end Go.Proofs
end
