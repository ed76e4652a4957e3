/- Contracts: escrow/term, Make. -/
import Derived.Test.YtakogcapgbilaaaCPoolB
open Go Go.SE
namespace Go.Proofs
attribute [local irreducible] Calls

def IsNodeKey (v : Value) : Prop := ∃ n, v = nkey n
theorem nkey_inj {n n' : Sp.Node} : nkey n = nkey n' ↔ n = n' := by
  constructor
  · intro h
    cases n; cases n'
    simp [nkey, nrow] at h
    simp [h]
  · rintro rfl; rfl
theorem sameBits_node (n : Sp.Node) : Instr.sameBits 10000 (nkey n) (nkey n) = true := by
  have h : ∀ d, Instr.sameBits (d + 1) (nkey n) (nkey n) = true := fun d => by
    have e : (n.text == n.text) = true := by rw [beq_toListBytes]; simp
    cases d <;> simp [Instr.sameBits, nkey, nrow, e]
  exact h 9999
theorem keyOK_node : KeyOK Try.prog 93 IsNodeKey := by
  refine KeyOK.of_struct Try.underlying93 ?_ ?_ ?_
  · rintro _ ⟨n, rfl⟩ em w; kernel_rfl
  · rintro _ _ w ⟨n, rfl⟩ ⟨n', rfl⟩
    refine ⟨decide (n = n'), ?_, by simp only [nkey_inj, decide_eq_true_eq]; exact eq_comm⟩
    obtain ⟨k, f, t, u, x, a, b⟩ := n
    obtain ⟨k', f', t', u', x', a', b'⟩ := n'
    simp [Op.equal, Op.maxDepth, go_sem, streq, nkey, nrow]
    repeat' split
    all_goals simp_all
  · rintro _ ⟨n, rfl⟩; exact sameBits_node n

theorem slT_entry : SlType Try.prog 180 213 9 (16 * 5) := by
  refine ⟨Try.underlying180, ⟨Try.t213, _, by kernel_rfl, (by kernel_rfl : Try.t213.zero = some (.agg #[.int .i64 0, .int .i64 0, .int .i64 0, .int .u64 0, .string ⟨#[]⟩, .int .i64 0, .int .i64 0, .int .i64 0, .int .i64 0])), by kernel_rfl, by kernel_rfl, rfl⟩, by omega⟩

theorem pmap_get {L : Sp.Pool} {i : Nat} {n : Sp.Node} {v : Value} (h : (pmap L)[i]? = some (nkey n, v)) : ∃ e, L[i]? = some e ∧ e.node = n ∧ v = .int .i64 (i + 1 : Nat) := by
  simp only [pmap, List.getElem?_map, List.getElem?_zipIdx, Option.map_map, Option.map_eq_some_iff] at h
  obtain ⟨e, he, h⟩ := h
  simp only [Function.comp, Prod.mk.injEq] at h
  exact ⟨e, he, nkey_inj.1 h.1, by rw [← h.2]; simp⟩
theorem pmap_not {L : Sp.Pool} {n : Sp.Node} (h : ∀ q ∈ pmap L, q.1 ≠ nkey n) : ∀ e ∈ L, e.node ≠ n := by
  intro e he hn
  obtain ⟨i, hi, rfl⟩ := List.mem_iff_getElem.1 he
  refine h (nkey L[i].node, .int .i64 (i + 1 : Nat)) ?_ (by rw [hn])
  exact List.mem_map.2 ⟨(L[i], i), by rw [List.mem_zipIdx_iff_getElem?]; simp [hi], rfl⟩
theorem pmap_keys {L : Sp.Pool} : ∀ q ∈ pmap L, IsNodeKey q.1 := by
  intro q hq
  obtain ⟨x, _, rfl⟩ := List.mem_map.1 hq
  exact ⟨_, rfl⟩
theorem pmap_snoc (L : Sp.Pool) (e : Sp.Ent) : pmap (L ++ [e]) = pmap L ++ [(nkey e.node, .int .i64 (L.length + 1 : Nat))] := by
  simp [pmap, List.zipIdx_append]

theorem find_of {L : Sp.Pool} (hok : Sp.Ok L) {i : Nat} {e : Sp.Ent} (h : L[i]? = some e) : Sp.find L e.node = some i := by
  obtain ⟨hi, rfl⟩ := List.getElem?_eq_some_iff.1 h
  unfold Sp.find
  rw [List.findIdx?_eq_some_iff_getElem]
  refine ⟨hi, by simp, fun j hj => ?_⟩
  have hnd := hok.nodup
  simp only [decide_eq_true_eq]
  intro e
  exact List.pairwise_iff_getElem.1 hnd j i (by simp; omega) (by simpa using hi) hj (by simpa using e)
theorem find_none {L : Sp.Pool} {n : Sp.Node} (h : ∀ e ∈ L, e.node ≠ n) : Sp.find L n = none := by
  unfold Sp.find
  rw [List.findIdx?_eq_none_iff]
  intro e he; simpa using h e he

theorem c_Make (p : Addr) (k f t u : Int) (x : ByteArray) (a b : Int) (w : World) {L : Sp.Pool} {F : Nat → Prop} (hP : PoolAt w p L F) (hok : Sp.Ok L) :
    Calls Try.prog 134 #[.pointer (some p), .agg #[.int .i64 k, .int .i64 f, .int .i64 t, .int .u64 u, .string x, .int .i64 a, .int .i64 b]] w
      (fun e w' => ∃ r1 : Int, ∃ r2 : Int, e = .returned (.tuple #[.int .i64 r1, .int .i64 r2]) ∧ ((r1, r2) = ((Sp.make L ⟨k, f, t, u, x, a, b⟩).1, (Sp.make L ⟨k, f, t, u, x, a, b⟩).2.1) ∧ ∃ F', PoolAt w' p (Sp.make L ⟨k, f, t, u, x, a, b⟩).2.2 F' ∧ Ext F w w' ∧ ∀ b, F' b → F b ∨ w.heap.size ≤ b)) := by
  suffices key : ∀ K : Int → Int → World → Prop, (∀ r1 r2 w', ((r1, r2) = ((Sp.make L ⟨k, f, t, u, x, a, b⟩).1, (Sp.make L ⟨k, f, t, u, x, a, b⟩).2.1) ∧ ∃ F', PoolAt w' p (Sp.make L ⟨k, f, t, u, x, a, b⟩).2.2 F' ∧ Ext F w w' ∧ ∀ b, F' b → F b ∨ w.heap.size ≤ b) → K r1 r2 w') → m_term_Pool_Make (some p) k f t u x a b w K from
    w_term_Pool_Make _ _ _ _ _ _ _ _ w _ (key _ (fun _ _ _ h => h))
  intro K hK
  unfold m_term_Pool_Make
  intro p2 w1 h1
  have b1 := Box.of_new h1
  have E1 : Pure w w1 := Ext.new h1
  have o2 : ¬ F p2.block := fun h => by have := hP.lt h; have := h1.at_size; omega
  refine Br.f rfl ⟨_, _, _, _, _, _, _, b1.row, ?_⟩
  refine (c_check p k f t u x a b w1 (hP.pure E1) hok).mono ?_
  rintro _ w2 ⟨sz, dp, er, rfl, hck, E2⟩
  refine ⟨_, _, _, rfl, ?_⟩
  generalize hn : (⟨k, f, t, u, x, a, b⟩ : Sp.Node) = n at *
  have E3 : Pure w w2 := E1.trans E2
  have same : ∀ w', Pure w w' → ∃ F', PoolAt w' p L F' ∧ Ext F w w' ∧ ∀ b, F' b → F b ∨ w.heap.size ≤ b := fun w' E => ⟨F, hP.pure E, E.pure, fun _ h => .inl h⟩
  refine ⟨fun h => hK _ _ _ ?_, fun h => ?_⟩
  · have he : er ≠ 0 := by simpa using h
    have : Sp.make L n = (0, er, L) := by unfold Sp.make; simp [← hck, he]
    rw [this]; exact ⟨rfl, same _ E3⟩
  · have he : er = 0 := by simpa using h
    subst he
    intro w3 hw3
    have E4 : Pure w w3 := by rw [hw3]; exact E3.trans (Ext.drew w2)
    have b3 := (b1.pure E2).pure (show Pure w2 w3 by rw [hw3]; exact Ext.drew w2)
    clear hw3
    obtain ⟨s, m, hS, hF⟩ := hP.pure E4
    refine ⟨p, rfl, _, hS.box.cell (i := 1) rfl, _, _, _, _, _, _, _, b3.row, ?_⟩
    have hkey : (Value.agg #[.int .i64 k, .int .i64 f, .int .i64 t, .int .u64 u, .string x, .int .i64 a, .int .i64 b]) = nkey n := by rw [← hn]; rfl
    rw [hkey]
    rcases hS.map.lookup (P := Try.prog) (T := 181) (E := 41) Try.underlying181 keyOK_node pmap_keys ⟨n, rfl⟩ (Try.zeroValue41 _) true with ⟨hnot, hrun⟩ | ⟨i, v, hi, hrun⟩
    · refine ⟨_, _, hrun, Br.f rfl ⟨p, rfl, s, hS.box.cell0, ?_⟩⟩
      have hno := pmap_not hnot
      have hfn := find_none hno
      have hlen : (s.len : Int) = L.length := by rw [hS.rows.len]; simp
      refine ⟨fun h => hK _ _ _ ?_, fun h => ?_⟩
      · have h2 : 65536 ≤ L.length := by have h := of_decide_eq_true h; omega
        have : Sp.make L n = (0, 6, L) := by unfold Sp.make; simp [← hck, hfn, h2]
        rw [this]; exact ⟨rfl, same _ E4⟩
      · have h2 : ¬ 65536 ≤ L.length := by have h := of_decide_eq_false h; omega
        have hmk : Sp.make L n = ((L.length : Int) + 1, 0, L ++ [⟨n, sz, dp⟩]) := by unfold Sp.make; simp [← hck, hfn, h2]
        refine ⟨fun w' => w'.cell? p = some s.v ∧ Row w' p2 (nrow n), ⟨?_, ?_⟩, ?_⟩
        · exact Ext.cell (F := None) (Ext.drew w3) hS.box.cell0 id
        · rw [← hn]; exact Ext.row (F := None) (Ext.drew w3) b3.row id
        intro w4 hw4
        have E5 : Pure w3 w4 := by rw [hw4]; exact Ext.drew w3
        clear hw4
        have hS4 : PoolS w4 p L s m := by
          exact ⟨hS.box.pure E5, hS.rows.pure E5, hS.map.ext E5 id, hS.n1, hS.n2, hS.n3⟩
        have b4 := b3.pure E5
        refine ⟨p, rfl, s, fun w' h => h.1, k, f, t, u, x, a, b, fun w' h => by have := h.2; rw [← hn] at this; exact this, ?_⟩
        intro p3 w5 h5
        have E6 : Pure w4 w5 := Ext.new h5
        have o3 : w.heap.size ≤ p3.block := New.own (E4.trans E5) h5
        have b5 := Box.of_new h5
        have hrows5 := hS4.rows.pure E6
        have hbox5 := hS4.box.pure E6
        have hmap5 : CMap w5 m (pmap L) := hS4.map.ext E6 id
        have b45 := b4.pure E6
        have hrow : Row w5 p3 (erow ⟨n, sz, dp⟩) := by rw [← hn]; exact b5.row
        refine ⟨⟨hbox5.cell0, by rw [← hn]; exact b45.row⟩, ?_⟩
        obtain ⟨s1, w6, hr6, hrows6, E7, hb6⟩ := hrows5.append (P := Try.prog) (ty := 180) slT_entry (c := 1) hrow (by simp [erow, nrow]) (by simp [erow, nrow, oneCell]) (by simp; omega) (by simp [maxLen]; omega)
        have nb : ∀ b, s.blk b → b ≠ p2.block := fun b hb e => o2 (by rw [← e]; exact (hF b).2 (.inr (.inl hb)))
        have hbox6 := hbox5.ext E7 hS.n2
        have hmap6 := hmap5.ext E7 hS.n3
        have b6 := b45.ext E7 (fun h => nb _ h rfl)
        refine ⟨s1, w6, hr6, ⟨hbox6.cell0, by rw [← hn]; exact b6.row⟩, p, rfl, hbox6.canW0 (by simp), ?_⟩
        intro w7 hw7
        have hbox7 : Box w7 p [s1.v, .map (some m)] 183 := by rw [hw7]; exact hbox6.set0
        have E8 : Ext (· = p.block) w6 w7 := by rw [hw7]; exact Ext.setCell p _
        clear hw7
        have hs1p : ¬ s1.blk p.block := fun h => (hb6 _ h).elim hS.n2 (fun h => by have := hbox5.lt; omega)
        have hs1m : ¬ s1.blk m := fun h => (hb6 _ h).elim hS.n3 (fun h => by have := hmap5.lt; omega)
        have hrows7 := hrows6.ext E8 (fun b hb e => hs1p (by rw [← e]; exact hb))
        have hmap7 := hmap6.ext E8 hS.n1
        have b7 := b6.ext E8 (fun e => o2 (by rw [e]; exact (hF _).2 (.inl rfl)))
        have hl1 : (s1.len : Int) = L.length + 1 := by rw [hrows6.len]; simp
        refine ⟨p, rfl, s1, hbox7.cell0, ?_⟩
        refine ⟨fun w' => w'.cell? (p.add 1) = some (.map (some m)) ∧ Row w' p2 (nrow n), ⟨?_, ?_⟩, ?_⟩
        · exact Ext.cell (F := None) (Ext.drew w7) (hbox7.cell (i := 1) rfl) id
        · rw [← hn]; exact Ext.row (F := None) (Ext.drew w7) b7.row id
        intro w8 hw8
        have E9 : Pure w7 w8 := by rw [hw8]; exact Ext.drew w7
        clear hw8
        refine ⟨p, rfl, some m, fun w' h => h.1, k, f, t, u, x, a, b, fun w' h => by have := h.2; rw [← hn] at this; exact this, ?_⟩
        rw [hkey, hl1]
        have hmap8 : CMap w8 m (pmap L) := hmap7.ext E9 id
        obtain ⟨w9, hr9, hmap9, E10⟩ := hmap8.insert (P := Try.prog) (v := .int .i64 ((L.length : Int) + 1)) Try.underlying181 keyOK_node pmap_keys ⟨n, rfl⟩ hnot
        refine ⟨w9, hr9, hK _ _ _ ?_⟩
        rw [hmk]
        have hbox9 := (hbox7.pure E9).ext E10 (fun e => hS.n1 e.symm)
        have hrows9 := (hrows7.pure E9).ext E10 (fun b hb e => hs1m (by rw [← e]; exact hb))
        refine ⟨rfl, fun b => b = p.block ∨ s1.blk b ∨ b = m, ⟨s1, m, ⟨hbox9, ?_, ?_, hS.n1, hs1p, hs1m⟩, fun _ => Iff.rfl⟩, ?_, ?_⟩
        · simpa using hrows9
        · rw [pmap_snoc]; simpa using hmap9
        · have hF' : ∀ b, F b ↔ (b = p.block ∨ s.blk b ∨ b = m) := hF
          have Ea : Ext F w w5 := ((E4.trans E5).trans E6).pure
          have Eb : Ext F w w6 := Ea.trans' E7 (fun i _ h => (hF' i).2 (.inr (.inl h)))
          have Ec : Ext F w w7 := Eb.trans' E8 (fun i _ h => (hF' i).2 (.inl h))
          have Ed : Ext F w w8 := Ec.thenPure E9
          exact Ed.trans' E10 (fun i _ h => (hF' i).2 (.inr (.inr h)))
        · intro b hb
          rcases hb with rfl | hb | rfl
          · exact .inl ((hF _).2 (.inl rfl))
          · rcases hb6 b hb with h | h
            · exact .inl ((hF _).2 (.inr (.inl h)))
            · right; have := ((E4.trans E5).trans E6).size; omega
          · exact .inl ((hF _).2 (.inr (.inr rfl)))
    · obtain ⟨e, he, hen, rfl⟩ := pmap_get hi
      refine ⟨_, _, hrun, Br.t rfl (hK _ _ _ ?_)⟩
      have hfd := find_of hok he
      rw [hen] at hfd
      have : Sp.make L n = ((i : Int) + 1, 0, L) := by unfold Sp.make; simp [← hck, hfd]
      rw [this]; exact ⟨by simp, same _ E4⟩
end Go.Proofs
