/- Symbolic execution, part I: m[k]++ (an entry that is found, or made, and stored to). -/
import Derived.Test.YtakogcapgbilaaaSeH
namespace Go.SE
open Go.Instr
/-- A map block, and the place of one entry by its birth. -/
structure CEnt (w : World) (m : Nat) (z : Int) (i : Nat) (es : List (Value × Value)) : Prop where
  ex : ∃ arr clock, w.heap[m]? = some (.map arr clock) ∧ arr.toList.map (fun e => (e.key, e.val)) = es ∧ arr.toList.Pairwise (fun a b => a.born < b.born) ∧ (∀ e ∈ arr.toList, e.born < clock) ∧ ∃ e, arr.toList[i]? = some e ∧ (e.born : Int) = z
theorem CEnt.ext {F : Nat → Prop} {w w' : World} {m : Nat} {z : Int} {i : Nat} {es : List (Value × Value)} (h : CEnt w m z i es) (hE : Ext F w w') (hf : ¬ F m) : CEnt w' m z i es := by
  obtain ⟨arr, clock, hm, r⟩ := h.ex
  exact ⟨arr, clock, hE.heap hm hf, r⟩
section
variable {P : Program} {T K E : TypeId} {S : Value → Prop} {w : World} {m : Nat} {es : List (Value × Value)}
theorem CMap.entry (h : CMap w m es) (hT : P.underlying T = some (.map K E)) (hK : KeyOK P K S) (hS : ∀ p ∈ es, S p.1) {k zero : Value} (hk : S k) (hn : ∀ p ∈ es, p.1 ≠ k) (hz : ∀ w, (zeroValue E).run P w = .ok zero w) :
    ∃ w' z, (Instr.mapEntry T (.map (some m)) k).run P w = .ok (.tuple #[zero, .int .i64 z]) w' ∧ CEnt w' m z es.length (es ++ [(k, zero)]) ∧ Ext (· = m) w w' := by
  obtain ⟨arr, clock, hm, rfl, hp, hb⟩ := h.ex
  obtain ⟨r, hr, hf⟩ := hK.find k arr.toList w hk (fun e he => hS _ (List.mem_map.2 ⟨e, he, rfl⟩))
  have hc := hK.check k hk false w
  have hg : (getObj m).run P w = .ok (.map arr clock) w := by simp [getObj, Sem.run, hm]
  have hlt := heap_lt hm
  rcases hf with ⟨rfl, _⟩ | ⟨i, e, hi, rfl, rfl⟩
  · refine ⟨{ w with heap := w.heap.setIfInBounds m (.map (arr.push { key := k, val := zero, born := clock }) (clock + 1)) }, clock, ?_, ⟨arr.push { key := k, val := zero, born := clock }, clock + 1, by simp [hlt], by simp, ?_, ?_, ⟨{ key := k, val := zero, born := clock }, by simp, rfl⟩⟩, ⟨rfl, rfl, rfl, by simp, fun b _ hf => by simp [Array.getElem?_setIfInBounds_ne (Ne.symm hf)]⟩⟩
    · simp [Instr.mapEntry, run_underlying hT, hg, hc, hr, hz, setObj, Sem.run, hm, goInt]
    · simp only [Array.toList_push, List.pairwise_append, List.pairwise_cons, List.mem_singleton]
      exact ⟨hp, ⟨by simp, List.Pairwise.nil⟩, fun a ha b hb' => by subst hb'; exact hb a ha⟩
    · intro e he
      simp only [Array.toList_push, List.mem_append, List.mem_singleton] at he
      rcases he with he | rfl
      · have := hb e he; omega
      · simp
  · exact absurd rfl (hn _ (List.mem_map.2 ⟨e, List.mem_of_getElem? hi, rfl⟩))
theorem CEnt.store {z : Int} {i : Nat} (h : CEnt w m z i es) {k v0 v : Value} (hi : es[i]? = some (k, v0)) :
    ∃ w', (Instr.entryStore T (.map (some m)) (.int .i64 z) v).run P w = .ok () w' ∧ CMap w' m (es.set i (k, v)) ∧ Ext (· = m) w w' := by
  obtain ⟨arr, clock, hm, rfl, hp, hb, e, he, rfl⟩ := h.ex
  have hg : (getObj m).run P w = .ok (.map arr clock) w := by simp [getObj, Sem.run, hm]
  have hlt := heap_lt hm
  obtain ⟨hja, hje⟩ := List.getElem?_eq_some_iff.1 he
  have hja' : i < arr.size := by simpa using hja
  have hje' : arr[i]? = some e := by simpa using he
  have hje2 : arr[i] = e := by simpa using hje
  have hke : e.key = k := by
    rw [List.getElem?_map, he] at hi
    have := Option.some.inj hi
    exact congrArg Prod.fst this
  have hfi : arr.findIdx? (fun e' => (e'.born : Int) == (e.born : Int)) = some i := by
    rw [Array.findIdx?_eq_some_iff_getElem]
    refine ⟨hja', by simp [hje2], fun j hj => ?_⟩
    have := List.pairwise_iff_getElem.1 hp j i (by simp; omega) (by simpa using hja') hj
    simp only [Array.getElem_toList, hje2] at this
    simp only [beq_iff_eq]; omega
  have hl : (arr.modify i fun e => { e with val := v }).toList = arr.toList.set i { e with val := v } := by
    rw [Array.toList_modify]
    apply List.ext_getElem?
    intro n
    rw [List.getElem?_modify, List.getElem?_set]
    by_cases hn : i = n
    · subst hn; simp [hja', hje2]
    · simp [hn]
  have hpw : (arr.toList.map (·.born)).Pairwise (· < ·) := List.pairwise_map.2 hp
  have hborn : (arr.toList.set i { e with val := v }).map (·.born) = arr.toList.map (·.born) := by
    rw [List.map_set]
    apply List.ext_getElem?
    intro n
    rw [List.getElem?_set]
    by_cases hn : i = n
    · subst hn; simp [hja', hje2]
    · simp [hn]
  refine ⟨{ w with heap := w.heap.setIfInBounds m (.map (arr.modify i fun e => { e with val := v }) clock) }, ?_, ⟨arr.modify i fun e => { e with val := v }, clock, by simp [hlt], ?_, ?_, ?_⟩, ⟨rfl, rfl, rfl, by simp, fun b _ hf => by simp [Array.getElem?_setIfInBounds_ne (Ne.symm hf)]⟩⟩
  · simp [Instr.entryStore, hg, asInt, asIntOf, hfi, setObj, Sem.run, hm]
  · rw [hl, List.map_set, hke]
  · rw [hl]; exact List.pairwise_map.1 (by rw [hborn]; exact hpw)
  · rw [hl]; intro e' he'
    have : e'.born ∈ arr.toList.map (·.born) := by rw [← hborn]; exact List.mem_map.2 ⟨e', he', rfl⟩
    obtain ⟨e'', h1, h2⟩ := List.mem_map.1 this
    rw [← h2]; exact hb e'' h1
end
end Go.SE
