/- Symbolic execution, part L: maps that count (m[k]++). -/
import Derived.Test.YtakogcapgbilaaaSeK
namespace Go.SE
open Go.Instr
theorem bits_eq {P : Program} {k : Value} {S : Value → Prop} {K : TypeId} (hK : KeyOK P K S) (hk : S k) : sameBits 10000 k k = true := hK.bits k hk
section
variable {P : Program} {T K E : TypeId} {S : Value → Prop} {w : World} {m : Nat} {es : List (Value × Value)}
/-- m[k] for a change, k there. -/
theorem CMap.entryOld (h : CMap w m es) (hT : P.underlying T = some (.map K E)) (hK : KeyOK P K S) (hS : ∀ p ∈ es, S p.1) {k v : Value} (hk : S k) {i : Nat} (hi : es[i]? = some (k, v)) (hu : ∀ j u, es[j]? = some (k, u) → j = i) :
    ∃ w' z, (Instr.mapEntry T (.map (some m)) k).run P w = .ok (.tuple #[v, .int .i64 z]) w' ∧ CEnt w' m z i es ∧ Ext (· = m) w w' := by
  obtain ⟨arr, clock, hm, rfl, hp, hb⟩ := h.ex
  obtain ⟨r, hr, hf⟩ := hK.find k arr.toList w hk (fun e he => hS _ (List.mem_map.2 ⟨e, he, rfl⟩))
  have hc := hK.check k hk false w
  have hg : (getObj m).run P w = .ok (.map arr clock) w := by simp [getObj, Sem.run, hm]
  have hlt := heap_lt hm
  rcases hf with ⟨rfl, hn⟩ | ⟨j, e, hj, hek, rfl⟩
  · have := List.mem_of_getElem? hi
    obtain ⟨e, he, h2⟩ := List.mem_map.1 this
    exact absurd (congrArg Prod.fst h2) (hn e he)
  · have hji : j = i := hu j e.val (by simp [hj, hek])
    subst hji
    have hval : e.val = v := by
      have : (arr.toList.map (fun e => (e.key, e.val)))[j]? = some (e.key, e.val) := by simp [hj]
      rw [this] at hi; exact congrArg Prod.snd (Option.some.inj hi)
    obtain ⟨hja, hje⟩ := List.getElem?_eq_some_iff.1 hj
    have hja' : j < arr.size := by simpa using hja
    have hje' : arr[j]? = some e := by simpa using hj
    have hje2 : arr[j] = e := by simpa using hje
    have hbits := hK.bits k hk
    have hmod : (arr.modify j fun e => { e with key := k }) = arr := by
      apply Array.ext
      · simp
      · intro n h1 h2
        rw [Array.getElem_modify]
        split
        · rename_i hn; subst hn; rw [hje2, ← hek]
        · rfl
    refine ⟨{ w with heap := w.heap.setIfInBounds m (.map arr clock) }, (e.born : Int), ?_, ⟨arr, clock, by simp [hlt], rfl, hp, hb, e, hj, rfl⟩, ⟨rfl, rfl, rfl, by simp, fun b _ hf => by simp [Array.getElem?_setIfInBounds_ne (Ne.symm hf)]⟩⟩
    simp [Instr.mapEntry, run_underlying hT, hg, hc, hr, setObj, Sem.run, hm, keyThatStays, hje', hek, hbits, hmod, hval, goInt]

/-- A map of counts: its keys in the order in which they came; no count above B. -/
structure CntMap (w : World) (m : Nat) (ks : List Value) (B : Int) : Prop where
  ex : ∃ es, CMap w m es ∧ es.map Prod.fst = ks ∧ ∀ p ∈ es, ∃ n, p.2 = .int .i64 n ∧ 1 ≤ n ∧ n ≤ B
  nodup : ks.Nodup
theorem CntMap.ext {F : Nat → Prop} {w w' : World} {m : Nat} {ks : List Value} {B : Int} (h : CntMap w m ks B) (hE : Ext F w w') (hf : ¬ F m) : CntMap w' m ks B :=
  ⟨let ⟨es, h1, h2⟩ := h.ex; ⟨es, h1.ext hE hf, h2⟩, h.nodup⟩
theorem CntMap.lt {w : World} {m : Nat} {ks : List Value} {B : Int} (h : CntMap w m ks B) : m < w.heap.size := let ⟨_, h1, _⟩ := h.ex; h1.lt
theorem CntMap.of_new {w w' : World} {p : Addr} (h : New w (.map #[] 0) p w') (B : Int) : CntMap w' p.block [] B := ⟨⟨[], CMap.of_new h, rfl, by simp⟩, List.nodup_nil⟩
theorem CntMap.mono {w : World} {m : Nat} {ks : List Value} {B B' : Int} (h : CntMap w m ks B) (hB : B ≤ B') : CntMap w m ks B' :=
  ⟨let ⟨es, h1, h2, h3⟩ := h.ex; ⟨es, h1, h2, fun p hp => let ⟨n, h4, h5, h6⟩ := h3 p hp; ⟨n, h4, h5, by omega⟩⟩, h.nodup⟩
theorem CntMap.look {ks : List Value} {B : Int} (h : CntMap w m ks B) (hT : P.underlying T = some (.map K E)) (hK : KeyOK P K S) (hS : ∀ k ∈ ks, S k) {k : Value} (hk : S k) (hz : ∀ w, (zeroValue E).run P w = .ok (.int .i64 0) w) :
    ∃ v, (Instr.lookup T (.map (some m)) k false).run P w = .ok (.int .i64 v) w ∧ ((k ∈ ks ∧ 1 ≤ v ∧ v ≤ B) ∨ (k ∉ ks ∧ v = 0)) := by
  obtain ⟨es, hM, rfl, hc⟩ := h.ex
  rcases hM.lookup hT hK (fun p hp => hS _ (List.mem_map.2 ⟨p, hp, rfl⟩)) hk (hz w) false with ⟨hn, hr⟩ | ⟨i, v, hi, hr⟩
  · refine ⟨0, hr, .inr ⟨fun hm => ?_, rfl⟩⟩
    obtain ⟨p, hp, rfl⟩ := List.mem_map.1 hm
    exact hn p hp rfl
  · obtain ⟨n, rfl, h1, h2⟩ := hc _ (List.mem_of_getElem? hi)
    exact ⟨n, hr, .inl ⟨List.mem_map.2 ⟨_, List.mem_of_getElem? hi, rfl⟩, h1, h2⟩⟩
theorem CEnt.cmap {w : World} {m : Nat} {z : Int} {i : Nat} {es : List (Value × Value)} (h : CEnt w m z i es) : CMap w m es := by
  obtain ⟨arr, clock, h1, h2, h3, h4, _⟩ := h.ex
  exact ⟨arr, clock, h1, h2, h3, h4⟩
/-- m[k]++ : what is found, and what the store brings. -/
theorem CntMap.bump {ks : List Value} {B : Int} (h : CntMap w m ks B) (hT : P.underlying T = some (.map K E)) (hK : KeyOK P K S) (hS : ∀ k ∈ ks, S k) {k : Value} (hk : S k) (hz : ∀ w, (zeroValue E).run P w = .ok (.int .i64 0) w) (hB : 0 ≤ B) :
    ∃ v w1 z, 0 ≤ v ∧ v ≤ B ∧ (Instr.lookup T (.map (some m)) k false).run P w = .ok (.int .i64 v) w ∧ (Instr.mapEntry T (.map (some m)) k).run P w = .ok (.tuple #[.int .i64 v, .int .i64 z]) w1 ∧
      (Instr.lookup T (.map (some m)) k false).run P w1 = .ok (.int .i64 v) w1 ∧ Ext (· = m) w w1 ∧
      (∀ {w2 : World} {F : Nat → Prop}, Ext F w1 w2 → ¬ F m → ∃ w3 ks', (Instr.entryStore T (.map (some m)) (.int .i64 z) (.int .i64 (v + 1))).run P w2 = .ok () w3 ∧ ((k ∈ ks ∧ ks' = ks) ∨ (k ∉ ks ∧ ks' = ks ++ [k])) ∧ CntMap w3 m ks' (B + 1) ∧ Ext (· = m) w2 w3) := by
  obtain ⟨es, hM, hks, hc⟩ := h.ex
  have hSe : ∀ p ∈ es, S p.1 := fun p hp => hS _ (by rw [← hks]; exact List.mem_map.2 ⟨p, hp, rfl⟩)
  have hu0 : ∀ (i j : Nat) (u u' : Value), es[i]? = some (k, u) → es[j]? = some (k, u') → j = i := by
    intro i j u u' hi hj
    have e1 : ks[j]? = some k := by rw [← hks]; simp [hj]
    have e2 : ks[i]? = some k := by rw [← hks]; simp [hi]
    obtain ⟨hj1, hj2⟩ := List.getElem?_eq_some_iff.1 e1
    obtain ⟨hi1, hi2⟩ := List.getElem?_eq_some_iff.1 e2
    exact (List.getElem_inj h.nodup).1 (hj2.trans hi2.symm)
  by_cases hmem : k ∈ ks
  · have hmem' := hmem
    rw [← hks] at hmem'
    obtain ⟨p, hp, hpk⟩ := List.mem_map.1 hmem'
    obtain ⟨i, hi⟩ := List.getElem?_of_mem hp
    obtain ⟨n, hn, h1, h2⟩ := hc p hp
    have hi' : es[i]? = some (k, .int .i64 n) := by rw [hi, ← hpk, ← hn]
    obtain ⟨w1, z, hr, hE, hX⟩ := hM.entryOld hT hK hSe hk hi' (fun j u hj => hu0 i j _ _ hi' hj)
    have look : ∀ w, CMap w m es → (Instr.lookup T (.map (some m)) k false).run P w = .ok (.int .i64 n) w := by
      intro w hM
      rcases hM.lookup hT hK hSe hk (hz w) false with ⟨hno, _⟩ | ⟨j, u, hj, hr⟩
      · exact absurd hpk (hno p hp)
      · have := hu0 i j _ _ hi' hj; subst this
        rw [hi'] at hj; cases hj; exact hr
    refine ⟨n, w1, z, by omega, h2, look w hM, hr, look w1 hE.cmap, hX, fun {w2 F} hF hf => ?_⟩
    obtain ⟨w3, hr3, hM3, hX3⟩ := (hE.ext hF hf).store (P := P) (T := T) (v := .int .i64 (n + 1)) hi'
    refine ⟨w3, ks, hr3, .inl ⟨hmem, rfl⟩, ⟨⟨_, hM3, ?_, ?_⟩, h.nodup⟩, hX3⟩
    · rw [← hks, List.map_set]
      apply List.ext_getElem?
      intro j
      rw [List.getElem?_set]
      by_cases hj : i = j
      · subst hj
        obtain ⟨hlt, hge⟩ := List.getElem?_eq_some_iff.1 hi'
        simp [hlt, hge]
      · simp [hj]
    · intro q hq
      rcases List.mem_or_eq_of_mem_set hq with hq | rfl
      · obtain ⟨n', h4, h5, h6⟩ := hc q hq; exact ⟨n', h4, h5, by omega⟩
      · exact ⟨n + 1, rfl, by omega, by omega⟩
  · have hno : ∀ p ∈ es, p.1 ≠ k := fun p hp e => hmem (by rw [← hks, ← e]; exact List.mem_map.2 ⟨p, hp, rfl⟩)
    obtain ⟨w1, z, hr, hE, hX⟩ := hM.entry hT hK hSe hk hno hz
    have l0 : (Instr.lookup T (.map (some m)) k false).run P w = .ok (.int .i64 0) w := by
      rcases hM.lookup hT hK hSe hk (hz w) false with ⟨_, hr⟩ | ⟨j, u, hj, _⟩
      · exact hr
      · exact absurd rfl (hno _ (List.mem_of_getElem? hj))
    have l1 : (Instr.lookup T (.map (some m)) k false).run P w1 = .ok (.int .i64 0) w1 := by
      rcases hE.cmap.lookup hT hK (fun p hp => (List.mem_append.1 hp).elim (hSe p) (fun h => by simp only [List.mem_singleton] at h; subst h; exact hk)) hk (hz w1) false with ⟨hr, _⟩ | ⟨j, u, hj, hr⟩
      · exact absurd rfl (hr (k, .int .i64 0) (by simp))
      · have : u = .int .i64 0 := by
          rcases List.mem_append.1 (List.mem_of_getElem? hj) with h | h
          · exact absurd rfl (hno _ h)
          · simp only [List.mem_singleton] at h; exact congrArg Prod.snd h
        subst this; exact hr
    refine ⟨0, w1, z, Int.le_refl _, hB, l0, hr, l1, hX, fun {w2 F} hF hf => ?_⟩
    obtain ⟨w3, hr3, hM3, hX3⟩ := (hE.ext hF hf).store (P := P) (T := T) (k := k) (v0 := .int .i64 0) (v := .int .i64 (0 + 1)) (by simp)
    refine ⟨w3, ks ++ [k], hr3, .inr ⟨hmem, rfl⟩, ⟨⟨_, hM3, ?_, ?_⟩, ?_⟩, hX3⟩
    · rw [List.set_append_right _ _ (Nat.le_refl _)]
      simp [hks]
    · intro q hq
      rw [List.set_append_right _ _ (Nat.le_refl _)] at hq
      simp only [Nat.sub_self, List.set_cons_zero, List.mem_append, List.mem_singleton] at hq
      rcases hq with hq | rfl
      · obtain ⟨n', h4, h5, h6⟩ := hc q hq; exact ⟨n', h4, h5, by omega⟩
      · exact ⟨1, rfl, by omega, by omega⟩
    · rw [List.nodup_append]
      exact ⟨h.nodup, by simp, fun a ha b hb => by simp only [List.mem_singleton] at hb; subst hb; intro e; exact hmem (e ▸ ha)⟩
end
end Go.SE
