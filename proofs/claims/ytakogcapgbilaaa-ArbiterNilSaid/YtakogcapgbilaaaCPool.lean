/- Contracts: escrow/term, the pool in memory; in, Size, Depth, Node. -/
import Derived.Test.YtakogcapgbilaaaCTermB
import Derived.Test.YtakogcapgbilaaaSpPool
import Derived.Test.YtakogcapgbilaaaSeF
import Derived.IntWalk
open Go Go.SE
namespace Go.Proofs
attribute [local irreducible] Calls

def nrow (n : Sp.Node) : List Value := [.int .i64 n.kind, .int .i64 n.frm, .int .i64 n.to, .int .u64 n.num, .string n.text, .int .i64 n.a, .int .i64 n.b]
def erow (e : Sp.Ent) : List Value := nrow e.node ++ [.int .i64 e.size, .int .i64 e.depth]
def nkey (n : Sp.Node) : Value := .agg (nrow n).toArray
def pmap (L : Sp.Pool) : List (Value × Value) := L.zipIdx.map fun p => (nkey p.1.node, .int .i64 (p.2 + 1 : Nat))

/-- A pool of the program's in memory: its slice, its map. -/
structure PoolS (w : World) (p : Addr) (L : Sp.Pool) (s : Sl) (m : Nat) : Prop where
  box : Box w p [s.v, .map (some m)] 183
  rows : Rws w 213 9 s (L.map erow)
  map : CMap w m (pmap L)
  n1 : m ≠ p.block
  n2 : ¬ s.blk p.block
  n3 : ¬ s.blk m
def PoolAt (w : World) (p : Addr) (L : Sp.Pool) (F : Nat → Prop) : Prop := ∃ s m, PoolS w p L s m ∧ ∀ b, F b ↔ (b = p.block ∨ s.blk b ∨ b = m)

theorem PoolAt.ext {G : Nat → Prop} {w w' : World} {p : Addr} {L : Sp.Pool} {F : Nat → Prop} (h : PoolAt w p L F) (hE : Ext G w w') (hd : ∀ b, F b → ¬ G b) : PoolAt w' p L F := by
  obtain ⟨s, m, h, hF⟩ := h
  exact ⟨s, m, ⟨h.box.ext hE (hd _ ((hF _).2 (.inl rfl))), h.rows.ext hE (fun b hb => hd _ ((hF _).2 (.inr (.inl hb)))), h.map.ext hE (hd _ ((hF _).2 (.inr (.inr rfl)))), h.n1, h.n2, h.n3⟩, hF⟩
theorem PoolAt.pure {w w' : World} {p : Addr} {L : Sp.Pool} {F : Nat → Prop} (h : PoolAt w p L F) (hE : Pure w w') : PoolAt w' p L F := h.ext hE (fun _ _ h => h)
theorem PoolAt.lt {w : World} {p : Addr} {L : Sp.Pool} {F : Nat → Prop} (h : PoolAt w p L F) {b : Nat} (hb : F b) : b < w.heap.size := by
  obtain ⟨s, m, h, hF⟩ := h
  rcases (hF b).1 hb with rfl | hb | rfl
  · exact h.box.lt
  · exact h.rows.lt hb
  · exact h.map.lt

theorem i64 {n : Int} (h : -9223372036854775808 ≤ n) (h' : n ≤ 9223372036854775807) : IntKind.i64.wrap n = n := IntWalk.i64_in n ⟨h, h'⟩

theorem c_in (p : Addr) (t : Int) (w : World) {L : Sp.Pool} {F : Nat → Prop} (hP : PoolAt w p L F) : Calls Try.prog 136 #[.pointer (some p), .int .i64 t] w (fun e w' => ∃ r, e = .returned (.bool r) ∧ (r = Sp.inP L t ∧ w = w')) := by
  obtain ⟨s, m, h, _⟩ := hP
  refine w_term_Pool_in (some p) t w (fun r w' => r = Sp.inP L t ∧ w = w') ?_
  unfold m_term_Pool_in
  have hl : (s.len : Int) = L.length := by rw [h.rows.len]; simp
  refine Br.t rfl ⟨fun h1 => ⟨p, rfl, s, h.box.cell0, ?_, rfl⟩, fun h1 => ⟨?_, rfl⟩⟩
  · have : 1 ≤ t := by simpa using h1
    simp [Sp.inP, hl, this]
  · have : ¬ 1 ≤ t := by simpa using h1
    simp [Sp.inP, this]

theorem PoolS.at {w : World} {p : Addr} {L : Sp.Pool} {s : Sl} {m : Nat} (h : PoolS w p L s m) {t : Int} (ht : Sp.inP L t = true) (hok : Sp.Ok L) : ∃ a e, At s (IntKind.i64.wrap (t - 1)) 9 a ∧ Row w a (erow e) ∧ s.blk a.block ∧ Sp.get L t = some e := by
  obtain ⟨h1, h2⟩ := Sp.inP_iff.1 ht
  obtain ⟨e, hg, _, hi, he⟩ := Sp.get_some ht
  have := hok.few
  rw [i64 (by omega) (by omega)]
  obtain ⟨a, hat, hr, hb⟩ := h.rows.at (i := t - 1) (by omega) (by simpa using hi)
  exact ⟨a, e, hat, (by rw [List.getElem_map, he] at hr; exact hr), hb, hg⟩

theorem c_Size (p : Addr) (t : Int) (w : World) {L : Sp.Pool} {F : Nat → Prop} (hP : PoolAt w p L F) (hok : Sp.Ok L) : Calls Try.prog 219 #[.pointer (some p), .int .i64 t] w (fun e w' => ∃ r, e = .returned (.int .i64 r) ∧ (r = Sp.sizeOf L t ∧ w = w')) := by
  refine w_term_Pool_Size (some p) t w (fun r w' => r = Sp.sizeOf L t ∧ w = w') ?_
  unfold m_term_Pool_Size
  refine (c_in p t w hP).mono ?_
  rintro _ _ ⟨_, rfl, rfl, rfl⟩
  obtain ⟨s, m, h, _⟩ := hP
  refine ⟨_, rfl, fun h1 => ⟨?_, rfl⟩, fun h1 => ?_⟩
  · simp [Sp.sizeOf, Sp.get_none (show Sp.inP L t = false by simpa using h1)]
  · obtain ⟨a, e, hat, hr, _, hg⟩ := h.at (show Sp.inP L t = true by simpa using h1) hok
    exact ⟨p, rfl, s, h.box.cell0, a, hat, e.size, hr 7 (by simp [erow, nrow]), by simp [Sp.sizeOf, hg], rfl⟩

theorem c_Depth (p : Addr) (t : Int) (w : World) {L : Sp.Pool} {F : Nat → Prop} (hP : PoolAt w p L F) (hok : Sp.Ok L) : Calls Try.prog 220 #[.pointer (some p), .int .i64 t] w (fun e w' => ∃ r, e = .returned (.int .i64 r) ∧ (r = Sp.depthOf L t ∧ w = w')) := by
  refine w_term_Pool_Depth (some p) t w (fun r w' => r = Sp.depthOf L t ∧ w = w') ?_
  unfold m_term_Pool_Depth
  refine (c_in p t w hP).mono ?_
  rintro _ _ ⟨_, rfl, rfl, rfl⟩
  obtain ⟨s, m, h, _⟩ := hP
  refine ⟨_, rfl, fun h1 => ⟨?_, rfl⟩, fun h1 => ?_⟩
  · simp [Sp.depthOf, Sp.get_none (show Sp.inP L t = false by simpa using h1)]
  · obtain ⟨a, e, hat, hr, _, hg⟩ := h.at (show Sp.inP L t = true by simpa using h1) hok
    exact ⟨p, rfl, s, h.box.cell0, a, hat, e.depth, hr 8 (by simp [erow, nrow]), by simp [Sp.depthOf, hg], rfl⟩

/-- Node: how a term is made. -/
theorem c_Node (p : Addr) (t : Int) (w : World) {L : Sp.Pool} {F : Nat → Prop} (hP : PoolAt w p L F) (hok : Sp.Ok L) : Calls Try.prog 91 #[.pointer (some p), .int .i64 t] w
    (fun e w' => ∃ k : Int, ∃ f : Int, ∃ t' : Int, ∃ u : Int, ∃ x : ByteArray, ∃ a : Int, ∃ b : Int, ∃ r : Bool, e = .returned (.tuple #[.agg #[.int .i64 k, .int .i64 f, .int .i64 t', .int .u64 u, .string x, .int .i64 a, .int .i64 b], .bool r]) ∧ (((⟨k, f, t', u, x, a, b⟩ : Sp.Node) = Sp.nodeOf L t ∧ r = Sp.inP L t) ∧ Pure w w')) := by
  refine w_term_Pool_Node (some p) t w (fun k f t' u x a b r w' => ((⟨k, f, t', u, x, a, b⟩ : Sp.Node) = Sp.nodeOf L t ∧ r = Sp.inP L t) ∧ Pure w w') ?_
  unfold m_term_Pool_Node
  intro p1 w1 h1
  have E1 : Pure w w1 := Ext.new h1
  have b1 := Box.of_new h1
  have hp := New.own (Ext.refl w) h1
  refine (c_in p t w1 (hP.pure E1)).mono ?_
  rintro _ _ ⟨_, rfl, rfl, rfl⟩
  obtain ⟨s, m, h, _⟩ := hP.pure E1
  refine ⟨_, rfl, fun h1 => bx 7 b1 rfl rfl (fun w' b E => ⟨_, _, _, _, _, _, _, b.row, ⟨?_, ?_⟩, E1.own hp E⟩), fun h1 => ?_⟩
  · simp [Sp.nodeOf, Sp.get_none (show Sp.inP L t = false by simpa using h1), Sp.noNode]
  · symm; simpa using h1
  · have ht : Sp.inP L t = true := by simpa using h1
    obtain ⟨a, e, hat, hr, _, hg⟩ := h.at ht hok
    have hn : Row w1 a (nrow e.node) := fun i hi => by
      have := hr i (by simp [erow]; omega)
      rw [this]; unfold erow; rw [List.getElem?_append_left hi]
    exact ⟨p, rfl, s, h.box.cell0, a, hat, _, _, _, _, _, _, _, hn, bx 7 b1 rfl rfl (fun w' b E => ⟨_, _, _, _, _, _, _, b.row, ⟨by simp [Sp.nodeOf, hg], ht.symm⟩, E1.own hp E⟩)⟩
end Go.Proofs
