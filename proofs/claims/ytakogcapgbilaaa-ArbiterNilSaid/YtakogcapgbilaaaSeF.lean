/- Symbolic execution, part F: maps. -/
import Derived.Test.YtakogcapgbilaaaSeE
import Derived.Laws.StructEq
namespace Go.SE
open Go.Instr

/-- What looking for a key finds. -/
def Found (k : Value) (es : List MapEntry) (r : Option (Nat × Value)) : Prop :=
  (r = .none ∧ ∀ e ∈ es, e.key ≠ k) ∨ ∃ i e, es[i]? = some e ∧ e.key = k ∧ r = some (i, e.val)

/-- A key's type: keys of S can be looked for. -/
structure KeyOK (P : Program) (K : TypeId) (S : Value → Prop) : Prop where
  check : ∀ k, S k → ∀ em w, (checkKey em 10000 K k).run P w = .ok () w
  find : ∀ k (es : List MapEntry) w, S k → (∀ e ∈ es, S e.key) → ∃ r, (findKey K k es).run P w = .ok r w ∧ Found k es r
  bits : ∀ k, S k → sameBits 10000 k k = true

/-- A map block: its entries in the order in which they came. -/
structure CMap (w : World) (m : Nat) (es : List (Value × Value)) : Prop where
  ex : ∃ arr clock, w.heap[m]? = some (.map arr clock) ∧ arr.toList.map (fun e => (e.key, e.val)) = es ∧ arr.toList.Pairwise (fun a b => a.born < b.born) ∧ ∀ e ∈ arr.toList, e.born < clock

theorem CMap.ext {F : Nat → Prop} {w w' : World} {m : Nat} {es : List (Value × Value)} (h : CMap w m es) (hE : Ext F w w') (hf : ¬ F m) : CMap w' m es := by
  obtain ⟨arr, clock, hm, r⟩ := h.ex
  exact ⟨arr, clock, hE.heap hm hf, r⟩
theorem CMap.lt {w : World} {m : Nat} {es : List (Value × Value)} (h : CMap w m es) : m < w.heap.size := by
  obtain ⟨arr, clock, hm, r⟩ := h.ex; exact heap_lt hm
theorem CMap.of_new {w w' : World} {p : Addr} (h : New w (.map #[] 0) p w') : CMap w' p.block [] := ⟨#[], 0, h.block_new, rfl, by simp, by simp⟩

theorem findAsking_found {P : Program} {K : TypeId} {k : Value} {w : World} : ∀ (es : List MapEntry) (i : Nat), (∀ e ∈ es, ∃ b, (Op.equal K k e.key).run P w = .ok b w ∧ (b = true ↔ e.key = k)) →
    ∃ r, (findAsking K k es i).run P w = .ok r w ∧ ((r = .none ∧ ∀ e ∈ es, e.key ≠ k) ∨ ∃ j e, es[j]? = some e ∧ e.key = k ∧ r = some (i + j, e.val))
  | [], i, _ => ⟨.none, rfl, .inl ⟨rfl, by simp⟩⟩
  | e :: es, i, h => by
    obtain ⟨b, hb, hbk⟩ := h e (by simp)
    cases b with
    | true =>
      refine ⟨some (i, e.val), ?_, .inr ⟨0, e, rfl, hbk.1 rfl, rfl⟩⟩
      simp [findAsking, hb]
    | false =>
      obtain ⟨r, hr, hf⟩ := findAsking_found es (i + 1) (fun e he => h e (by simp [he]))
      refine ⟨r, ?_, ?_⟩
      · simp [findAsking, hb, hr]
      · rcases hf with ⟨h1, h2⟩ | ⟨j, e', h1, h2, h3⟩
        · left
          refine ⟨h1, fun e' he' => ?_⟩
          rcases List.mem_cons.1 he' with rfl | he'
          · intro hk; have := hbk.2 hk; cases this
          · exact h2 e' he'
        · exact .inr ⟨j + 1, e', by simpa using h1, h2, by rw [h3, Nat.add_assoc, Nat.add_comm 1 j]⟩

theorem findNow_struct {fs : Array Field} {k : Value} : ∀ (es : List MapEntry) (i : Nat), es ≠ [] → findNow (.struct fs) k es i = .none
  | [], _, h => absurd rfl h
  | e :: es, i, _ => by simp [findNow, sameNow]

theorem KeyOK.of_struct {P : Program} {K : TypeId} {S : Value → Prop} {fs : Array Field} (hK : P.underlying K = some (.struct fs)) (hc : ∀ k, S k → ∀ em w, (checkKey em 10000 K k).run P w = .ok () w)
    (he : ∀ k k' w, S k → S k' → ∃ b, (Op.equal K k k').run P w = .ok b w ∧ (b = true ↔ k' = k)) (hb : ∀ k, S k → sameBits 10000 k k = true) : KeyOK P K S := by
  refine ⟨hc, fun k es w hk hes => ?_, hb⟩
  unfold findKey
  simp only [Sem.run_bind, run_underlying hK, Result.andThen_ok]
  by_cases h0 : es = []
  · subst h0; exact ⟨.none, by simp [findNow], .inl ⟨rfl, by simp⟩⟩
  · rw [findNow_struct es 0 h0]
    obtain ⟨r, hr, hf⟩ := findAsking_found (P := P) (K := K) (k := k) (w := w) es 0 (fun e he' => he k e.key w hk (hes e he'))
    exact ⟨r, hr, by simpa [Found] using hf⟩

theorem findNow_int {q : IntKind} {k : Int} : ∀ (es : List MapEntry) (i : Nat), (∀ e ∈ es, ∃ n, e.key = .int q n) → ∃ r, findNow (.int q) (.int q k) es i = some r ∧ ((r = .none ∧ ∀ e ∈ es, e.key ≠ .int q k) ∨ ∃ j e, es[j]? = some e ∧ e.key = .int q k ∧ r = some (i + j, e.val))
  | [], i, _ => ⟨.none, rfl, .inl ⟨rfl, by simp⟩⟩
  | e :: es, i, h => by
    obtain ⟨n, hn⟩ := h e (by simp)
    by_cases hk : k = n
    · subst hk
      exact ⟨some (i, e.val), by simp [findNow, sameNow, hn], .inr ⟨0, e, rfl, hn, rfl⟩⟩
    · obtain ⟨r, hr, hf⟩ := findNow_int (q := q) (k := k) es (i + 1) (fun e he => h e (by simp [he]))
      have hkn : (k == n) = false := by simpa using hk
      refine ⟨r, by simp [findNow, sameNow, hn, hkn, hr], ?_⟩
      rcases hf with ⟨h1, h2⟩ | ⟨j, e', h1, h2, h3⟩
      · left
        refine ⟨h1, fun e' he' => ?_⟩
        rcases List.mem_cons.1 he' with rfl | he'
        · rw [hn]; intro h; cases h; exact hk rfl
        · exact h2 e' he'
      · exact .inr ⟨j + 1, e', by simpa using h1, h2, by rw [h3, Nat.add_assoc, Nat.add_comm 1 j]⟩

theorem checkKey_int {P : Program} {K : TypeId} {q : IntKind} (hK : P.underlying K = some (.int q)) (n : Int) (em : Bool) (w : World) (d : Nat) : (checkKey em (d + 1) K (.int q n)).run P w = .ok () w := by
  simp [checkKey, run_underlying hK]
theorem sameBits_int (q : IntKind) (n : Int) (d : Nat) : sameBits d (.int q n) (.int q n) = true := by
  cases d <;> simp [sameBits]
theorem KeyOK.of_int {P : Program} {K : TypeId} {q : IntKind} (hK : P.underlying K = some (.int q)) : KeyOK P K (fun k => ∃ n, k = .int q n) := by
  refine ⟨?_, ?_, ?_⟩
  · rintro _ ⟨n, rfl⟩ em w; exact checkKey_int hK n em w 9999
  · rintro _ es w ⟨n, rfl⟩ hes
    obtain ⟨r, hr, hf⟩ := findNow_int (q := q) (k := n) es 0 hes
    exact ⟨r, by simp [findKey, run_underlying hK, hr], by simpa [Found] using hf⟩
  · rintro _ ⟨n, rfl⟩; exact sameBits_int q n 10000

section
variable {P : Program} {T K E : TypeId} {S : Value → Prop} {w : World} {m : Nat} {es : List (Value × Value)}

/-- v, ok := m[k] -/
theorem CMap.lookup (h : CMap w m es) (hT : P.underlying T = some (.map K E)) (hK : KeyOK P K S) (hS : ∀ p ∈ es, S p.1) {k z : Value} (hk : S k) (hz : (zeroValue E).run P w = .ok z w) (ok : Bool) :
    ((∀ p ∈ es, p.1 ≠ k) ∧ (Instr.lookup T (.map (some m)) k ok).run P w = .ok (if ok then .tuple #[z, .bool false] else z) w) ∨
    ∃ (i : Nat) (v : Value), es[i]? = some (k, v) ∧ (Instr.lookup T (.map (some m)) k ok).run P w = .ok (if ok then .tuple #[v, .bool true] else v) w := by
  obtain ⟨arr, clock, hm, rfl, _, _⟩ := h.ex
  obtain ⟨r, hr, hf⟩ := hK.find k arr.toList w hk (fun e he => hS _ (List.mem_map.2 ⟨e, he, rfl⟩))
  have hc := hK.check k hk arr.isEmpty w
  have hg : (getObj m).run P w = .ok (.map arr clock) w := by simp [getObj, Sem.run, hm]
  rcases hf with ⟨rfl, hn⟩ | ⟨i, e, hi, rfl, rfl⟩
  · left
    refine ⟨fun p hp => ?_, ?_⟩
    · obtain ⟨e, he, rfl⟩ := List.mem_map.1 hp; exact hn e he
    · cases ok <;> simp [Instr.lookup, run_underlying hT, hg, hc, hr, hz]
  · right
    refine ⟨i, e.val, by simp [hi], ?_⟩
    cases ok <;> simp [Instr.lookup, run_underlying hT, hg, hc, hr]

/-- m[k] = v, k not there. -/
theorem CMap.insert (h : CMap w m es) (hT : P.underlying T = some (.map K E)) (hK : KeyOK P K S) (hS : ∀ p ∈ es, S p.1) {k v : Value} (hk : S k) (hn : ∀ p ∈ es, p.1 ≠ k) :
    ∃ w', (Instr.mapUpdate T (.map (some m)) k v).run P w = .ok () w' ∧ CMap w' m (es ++ [(k, v)]) ∧ Ext (· = m) w w' := by
  obtain ⟨arr, clock, hm, rfl, hp, hb⟩ := h.ex
  obtain ⟨r, hr, hf⟩ := hK.find k arr.toList w hk (fun e he => hS _ (List.mem_map.2 ⟨e, he, rfl⟩))
  have hc := hK.check k hk false w
  have hg : (getObj m).run P w = .ok (.map arr clock) w := by simp [getObj, Sem.run, hm]
  have hlt := heap_lt hm
  rcases hf with ⟨rfl, _⟩ | ⟨i, e, hi, rfl, rfl⟩
  · refine ⟨{ w with heap := w.heap.setIfInBounds m (.map (arr.push { key := k, val := v, born := clock }) (clock + 1)) }, ?_, ⟨arr.push { key := k, val := v, born := clock }, clock + 1, by simp [hlt], by simp, ?_, ?_⟩, ⟨rfl, rfl, rfl, by simp, fun b _ hf => by simp [Array.getElem?_setIfInBounds_ne (Ne.symm hf)]⟩⟩
    · simp [Instr.mapUpdate, run_underlying hT, hg, hc, hr, setObj, Sem.run, hm]
    · simp only [Array.toList_push, List.pairwise_append, List.pairwise_cons, List.mem_singleton]
      exact ⟨hp, ⟨by simp, List.Pairwise.nil⟩, fun a ha b hb' => by subst hb'; exact hb a ha⟩
    · intro e he
      simp only [Array.toList_push, List.mem_append, List.mem_singleton] at he
      rcases he with he | rfl
      · have := hb e he; omega
      · simp
  · exact absurd rfl (hn _ (List.mem_map.2 ⟨e, List.mem_of_getElem? hi, rfl⟩))

theorem map_eraseIdx' {α β : Type} (f : α → β) : ∀ (l : List α) (i : Nat), (l.eraseIdx i).map f = (l.map f).eraseIdx i
  | [], i => by simp
  | a :: l, 0 => by simp
  | a :: l, i + 1 => by simp [map_eraseIdx' f l i]
/-- delete(m, k), k there. -/
theorem CMap.delete (h : CMap w m es) (hT : P.underlying T = some (.map K E)) (hK : KeyOK P K S) (hS : ∀ p ∈ es, S p.1) {k v : Value} (hk : S k) {i : Nat} (hi : es[i]? = some (k, v)) (hu : ∀ j u, es[j]? = some (k, u) → j = i) {Q : TypeId} {z : TypeId} :
    ∃ w', (Builtin.delete_ #[T, Q] z #[.map (some m), k]).run P w = .ok (.tuple #[]) w' ∧ CMap w' m (es.eraseIdx i) ∧ Ext (· = m) w w' := by
  obtain ⟨arr, clock, hm, rfl, hp, hb⟩ := h.ex
  obtain ⟨r, hr, hf⟩ := hK.find k arr.toList w hk (fun e he => hS _ (List.mem_map.2 ⟨e, he, rfl⟩))
  have hc := hK.check k hk arr.isEmpty w
  have hg : (getObj m).run P w = .ok (.map arr clock) w := by simp [getObj, Sem.run, hm]
  have hlt := heap_lt hm
  rcases hf with ⟨rfl, hn⟩ | ⟨j, e, hj, rfl, rfl⟩
  · have := List.mem_of_getElem? hi
    obtain ⟨e, he, h2⟩ := List.mem_map.1 this
    exact absurd (congrArg Prod.fst h2) (hn e he)
  · have hji : j = i := hu j e.val (by simp [hj])
    subst hji
    have hja : j < arr.size := by
      have := List.getElem?_eq_some_iff.1 hj
      obtain ⟨h, _⟩ := this; simpa using h
    have hl : (arr.eraseIdxIfInBounds j).toList = arr.toList.eraseIdx j := by
      simp [Array.eraseIdxIfInBounds, hja, Array.toList_eraseIdx]
    refine ⟨{ w with heap := w.heap.setIfInBounds m (.map (arr.eraseIdxIfInBounds j) clock) }, ?_, ⟨arr.eraseIdxIfInBounds j, clock, by simp [hlt], ?_, ?_, ?_⟩, ⟨rfl, rfl, rfl, by simp, fun b _ hf => by simp [Array.getElem?_setIfInBounds_ne (Ne.symm hf)]⟩⟩
    · simp [Builtin.delete_, run_underlying hT, hg, hc, hr, setObj, Sem.run, hm]
    · rw [hl]; exact map_eraseIdx' _ _ _
    · rw [hl]; exact hp.sublist (List.eraseIdx_sublist _ _)
    · rw [hl]; intro e he; exact hb e ((List.eraseIdx_sublist _ _).subset he)

/-- m[k] = v, k there. -/
theorem CMap.update (h : CMap w m es) (hT : P.underlying T = some (.map K E)) (hK : KeyOK P K S) (hS : ∀ p ∈ es, S p.1) {k v v' : Value} (hk : S k) {i : Nat} (hi : es[i]? = some (k, v)) (hu : ∀ j u, es[j]? = some (k, u) → j = i) :
    ∃ w', (Instr.mapUpdate T (.map (some m)) k v').run P w = .ok () w' ∧ CMap w' m (es.set i (k, v')) ∧ Ext (· = m) w w' := by
  obtain ⟨arr, clock, hm, rfl, hp, hb⟩ := h.ex
  obtain ⟨r, hr, hf⟩ := hK.find k arr.toList w hk (fun e he => hS _ (List.mem_map.2 ⟨e, he, rfl⟩))
  have hc := hK.check k hk false w
  have hg : (getObj m).run P w = .ok (.map arr clock) w := by simp [getObj, Sem.run, hm]
  have hlt := heap_lt hm
  rcases hf with ⟨rfl, hn⟩ | ⟨j, e, hj, hek, rfl⟩
  · have := List.mem_of_getElem? hi
    obtain ⟨e, he, h2⟩ := List.mem_map.1 this
    exact absurd (congrArg Prod.fst h2) (hn e he)
  · have hji : j = i := hu j e.val (by simp [hj, hek])
    subst hji
    obtain ⟨hja, hje⟩ := List.getElem?_eq_some_iff.1 hj
    have hja' : j < arr.size := by simpa using hja
    have hje' : arr[j]? = some e := by simpa using hj
    have hje2 : arr[j] = e := by simpa using hje
    have hl : (arr.modify j fun e => { e with key := k, val := v' }).toList = arr.toList.set j { e with key := k, val := v' } := by
      rw [Array.toList_modify]
      apply List.ext_getElem?
      intro n
      rw [List.getElem?_modify, List.getElem?_set]
      by_cases hn : j = n
      · subst hn; simp [hja', hje', hje2]
      · simp [hn]
    have hpw : (arr.toList.map (·.born)).Pairwise (· < ·) := List.pairwise_map.2 hp
    have hborn : (arr.toList.set j { e with key := k, val := v' }).map (·.born) = arr.toList.map (·.born) := by
      rw [List.map_set]
      apply List.ext_getElem?
      intro n
      rw [List.getElem?_set]
      by_cases hn : j = n
      · subst hn; simp [hja', hje', hje2]
      · simp [hn]
    have hbits := hK.bits k hk
    refine ⟨{ w with heap := w.heap.setIfInBounds m (.map (arr.modify j fun e => { e with key := k, val := v' }) clock) }, ?_, ⟨arr.modify j fun e => { e with key := k, val := v' }, clock, by simp [hlt], ?_, ?_, ?_⟩, ⟨rfl, rfl, rfl, by simp, fun b _ hf => by simp [Array.getElem?_setIfInBounds_ne (Ne.symm hf)]⟩⟩
    · simp [Instr.mapUpdate, run_underlying hT, hg, hc, hr, setObj, Sem.run, hm, keyThatStays, hje', hek, hbits]
    · rw [hl, List.map_set]
    · rw [hl]; exact List.pairwise_map.1 (by rw [hborn]; exact hpw)
    · rw [hl]; intro e' he'
      have : e'.born ∈ arr.toList.map (·.born) := by rw [← hborn]; exact List.mem_map.2 ⟨e', he', rfl⟩
      obtain ⟨e'', h1, h2⟩ := List.mem_map.1 this
      rw [← h2]; exact hb e'' h1
end
end Go.SE
