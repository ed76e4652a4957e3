import Derived.Test.YtcldldjildmdlaaPa2
import Derived.Test.YtcldldjildmdlaaPa0
import Derived.Test.YtcldldjildmdlaaProg
import Derived.KernelRfl
import Derived.Test.YtcldldjildmdlaaPa1
section
open Go Go.SE
namespace Go.Proofs
attribute [local irreducible] Calls
def IsNodeKey (v : Value) : Prop := ∃ n, v = nkey n
theorem nkey_inj {n n' : Sp.Node} : nkey n = nkey n' ↔ n = n' := by
 constructor
 ·intro h
  cases n; cases n'
  simp [nkey, nrow] at h
  simp [h]
 ·rintro rfl; rfl
theorem sameBits_node (n : Sp.Node) : Instr.sameBits 10000 (nkey n) (nkey n) = true := by
 have h : ∀ d, Instr.sameBits (d + 1) (nkey n) (nkey n) = true := fun d => by
  have e : (n.text == n.text) = true := by rw [beq_toListBytes]; simp
  cases d <;> simp [Instr.sameBits, nkey, nrow, e]
 exact h 9999
theorem keyOK_node : KeyOK Try.prog 106 IsNodeKey := by
 refine KeyOK.of_struct Try.underlying106 ?_ ?_ ?_
 ·rintro _ ⟨n, rfl⟩ em w; kernel_rfl
 ·rintro _ _ w ⟨n, rfl⟩ ⟨n', rfl⟩
  refine ⟨decide (n = n'), ?_, by simp only [nkey_inj, decide_eq_true_eq]; exact eq_comm⟩
  obtain ⟨k, f, t, u, x, a, b⟩ := n
  obtain ⟨k', f', t', u', x', a', b'⟩ := n'
  simp [Op.equal, Op.maxDepth, go_sem, streq, nkey, nrow]
  repeat' split
  all_goals simp_all
 ·rintro _ ⟨n, rfl⟩; exact sameBits_node n
theorem slT_entry : SlType Try.prog 130 178 9 (16 * 5) := by
 refine ⟨Try.underlying130, ⟨Try.t178, _, by kernel_rfl, (by kernel_rfl : Try.t178.zero = some (.agg #[.int .i64 0, .int .i64 0, .int .i64 0, .int .u64 0, .string ⟨#[]⟩, .int .i64 0, .int .i64 0, .int .i64 0, .int .i64 0])), by kernel_rfl, by kernel_rfl, rfl⟩, by omega⟩
theorem pmap_get {L : Sp.Pool} {i : Nat} {n : Sp.Node} {v : Value} (h : (pmap L)[i]? = some (nkey n, v)) : ∃ e, L[i]? = some e ∧ e.node = n ∧ v = .int .i64 (i + 1 : Nat) := by
 simp only [pmap, List.getElem?_map, List.getElem?_zipIdx, Option.map_map, Option.map_eq_some_iff] at h
 obtain ⟨e, he, h⟩ := h
 simp only [Function.comp, Prod.mk.injEq] at h
 exact ⟨e, he, nkey_inj.1 h.1, by rw [← h.2]; simp⟩
theorem pmap_not {L : Sp.Pool} {n : Sp.Node} (h : ∀ q ∈ pmap L, q.1 ≠ nkey n) : ∀ e ∈ L, e.node ≠ n := by
 intro e he hn
 obtain ⟨i, hi, rfl⟩ := List.mem_iff_getElem.1 he
 refine h (nkey L[i].node, .int .i64 (i + 1 : Nat)) ?_ (by rw [hn])
 exact List.mem_map.2 ⟨(L[i], i), by rw [List.mem_zipIdx_iff_getElem?]; simp [hi], rfl⟩
theorem pmap_keys {L : Sp.Pool} : ∀ q ∈ pmap L, IsNodeKey q.1 := by
 intro q hq
 obtain ⟨x, _, rfl⟩ := List.mem_map.1 hq
 exact ⟨_, rfl⟩
theorem pmap_snoc (L : Sp.Pool) (e : Sp.Ent) : pmap (L ++ [e]) = pmap L ++ [(nkey e.node, .int .i64 (L.length + 1 : Nat))] := by
 simp [pmap, List.zipIdx_append]
theorem find_of {L : Sp.Pool} (hok : Sp.Ok L) {i : Nat} {e : Sp.Ent} (h : L[i]? = some e) : Sp.find L e.node = some i := by
 obtain ⟨hi, rfl⟩ := List.getElem?_eq_some_iff.1 h
 unfold Sp.find
 rw [List.findIdx?_eq_some_iff_getElem]
 refine ⟨hi, by simp, fun j hj => ?_⟩
 have hnd := hok.nodup
 simp only [decide_eq_true_eq]
 intro e
 exact List.pairwise_iff_getElem.1 hnd j i (by simp; omega) (by simpa using hi) hj (by simpa using e)
theorem find_none {L : Sp.Pool} {n : Sp.Node} (h : ∀ e ∈ L, e.node ≠ n) : Sp.find L n = none := by
 unfold Sp.find
 rw [List.findIdx?_eq_none_iff]
 intro e he; simpa using h e he
theorem c_Make (p : Addr) (k f t u : Int) (x : ByteArray) (a b : Int) (w : World) {L : Sp.Pool} {F : NP} (hP : PoolAt w p L F) (hok : Sp.Ok L) :
  Calls Try.prog 130 #[.pointer (some p), .agg #[.int .i64 k, .int .i64 f, .int .i64 t, .int .u64 u, .string x, .int .i64 a, .int .i64 b]] w
   (fun e w' => ∃ r1 : Int, ∃ r2 : Int, e = .returned (.tuple #[.int .i64 r1, .int .i64 r2]) ∧ ((r1, r2) = ((Sp.make L ⟨k, f, t, u, x, a, b⟩).1, (Sp.make L ⟨k, f, t, u, x, a, b⟩).2.1) ∧ ∃ F', PoolAt w' p (Sp.make L ⟨k, f, t, u, x, a, b⟩).2.2 F' ∧ Ext F w w' ∧ ∀ b, F' b → F b ∨ w.heap.size ≤ b)) := by
 suffices key : ∀ K : Int → Int → WP, (∀ r1 r2 w', ((r1, r2) = ((Sp.make L ⟨k, f, t, u, x, a, b⟩).1, (Sp.make L ⟨k, f, t, u, x, a, b⟩).2.1) ∧ ∃ F', PoolAt w' p (Sp.make L ⟨k, f, t, u, x, a, b⟩).2.2 F' ∧ Ext F w w' ∧ ∀ b, F' b → F b ∨ w.heap.size ≤ b) → K r1 r2 w') → m_A1 (some p) k f t u x a b w K from
  w_A1 _ _ _ _ _ _ _ _ w _ (key _ (fun _ _ _ h => h))
 intro K hK
 unfold m_A1
 intro p2 w1 h1
 have b1 := Box.of_new h1
 have E1 : Pure w w1 := Ext.new h1
 have o2 : ¬ F p2.block := fun h => by have := hP.lt h; have := h1.at_size; omega
 refine Br.f rfl ⟨_, _, _, _, _, _, _, b1.row, ?_⟩
 refine (c_check p k f t u x a b w1 (hP.pure E1) hok).mono ?_
 rintro _ w2 ⟨sz, dp, er, rfl, hck, E2⟩
 refine ⟨_, _, _, rfl, ?_⟩
 generalize hn : (⟨k, f, t, u, x, a, b⟩ : Sp.Node) = n at *
 have E3 : Pure w w2 := E1.trans E2
 have same : ∀ w', Pure w w' → ∃ F', PoolAt w' p L F' ∧ Ext F w w' ∧ ∀ b, F' b → F b ∨ w.heap.size ≤ b := fun w' E => ⟨F, hP.pure E, E.pure, fun _ h => .inl h⟩
 refine ⟨fun h => hK _ _ _ ?_, fun h => ?_⟩
 ·have he : er ≠ 0 := by simpa using h
  have : Sp.make L n = (0, er, L) := by unfold Sp.make; simp [← hck, he]
  rw [this]; exact ⟨rfl, same _ E3⟩
 ·have he : er = 0 := by simpa using h
  subst he
  intro w3 hw3
  have E4 : Pure w w3 := by rw [hw3]; exact E3.trans (Ext.drew w2)
  have b3 := (b1.pure E2).pure (show Pure w2 w3 by rw [hw3]; exact Ext.drew w2)
  clear hw3
  obtain ⟨s, m, hS, hF⟩ := hP.pure E4
  refine ⟨p, rfl, _, hS.box.cell (i := 1) rfl, _, _, _, _, _, _, _, b3.row, ?_⟩
  have hkey : (Value.agg #[.int .i64 k, .int .i64 f, .int .i64 t, .int .u64 u, .string x, .int .i64 a, .int .i64 b]) = nkey n := by rw [← hn]; rfl
  rw [hkey]
  rcases hS.map.lookup (P := Try.prog) (T := 129) (E := 32) Try.underlying129 keyOK_node pmap_keys ⟨n, rfl⟩ (Try.zeroValue32 _) true with ⟨hnot, hrun⟩ | ⟨i, v, hi, hrun⟩
  ·refine ⟨_, _, hrun, Br.f rfl ⟨p, rfl, s, hS.box.cell0, ?_⟩⟩
   have hno := pmap_not hnot
   have hfn := find_none hno
   have hlen : (s.len : Int) = L.length := by rw [hS.rows.len]; simp
   refine ⟨fun h => hK _ _ _ ?_, fun h => ?_⟩
   ·have h2 : 65536 ≤ L.length := by have h := of_decide_eq_true h; omega
    have : Sp.make L n = (0, 6, L) := by unfold Sp.make; simp [← hck, hfn, h2]
    rw [this]; exact ⟨rfl, same _ E4⟩
   ·have h2 : ¬ 65536 ≤ L.length := by have h := of_decide_eq_false h; omega
    have hmk : Sp.make L n = ((L.length : Int) + 1, 0, L ++ [⟨n, sz, dp⟩]) := by unfold Sp.make; simp [← hck, hfn, h2]
    refine ⟨fun w' => w'.cell? p = some s.v ∧ Row w' p2 (nrow n), ⟨?_, ?_⟩, ?_⟩
    ·exact Ext.cell (F := None) (Ext.drew w3) hS.box.cell0 id
    ·rw [← hn]; exact Ext.row (F := None) (Ext.drew w3) b3.row id
    intro w4 hw4
    have E5 : Pure w3 w4 := by rw [hw4]; exact Ext.drew w3
    clear hw4
    have hS4 : PoolS w4 p L s m := by
     exact ⟨hS.box.pure E5, hS.rows.pure E5, hS.map.ext E5 id, hS.n1, hS.n2, hS.n3⟩
    have b4 := b3.pure E5
    refine ⟨p, rfl, s, fun w' h => h.1, k, f, t, u, x, a, b, fun w' h => by have := h.2; rw [← hn] at this; exact this, ?_⟩
    intro p3 w5 h5
    have E6 : Pure w4 w5 := Ext.new h5
    have o3 : w.heap.size ≤ p3.block := New.own (E4.trans E5) h5
    have b5 := Box.of_new h5
    have hrows5 := hS4.rows.pure E6
    have hbox5 := hS4.box.pure E6
    have hmap5 : CMap w5 m (pmap L) := hS4.map.ext E6 id
    have b45 := b4.pure E6
    have hrow : Row w5 p3 (erow ⟨n, sz, dp⟩) := by rw [← hn]; exact b5.row
    refine ⟨⟨hbox5.cell0, by rw [← hn]; exact b45.row⟩, ?_⟩
    obtain ⟨s1, w6, hr6, hrows6, E7, hb6⟩ := hrows5.append (P := Try.prog) (ty := 130) slT_entry (c := 1) hrow (by simp [erow, nrow]) (by simp [erow, nrow, oneCell]) (by simp; omega) (by simp [maxLen]; omega)
    have nb : ∀ b, s.blk b → b ≠ p2.block := fun b hb e => o2 (by rw [← e]; exact (hF b).2 (.inr (.inl hb)))
    have hbox6 := hbox5.ext E7 hS.n2
    have hmap6 := hmap5.ext E7 hS.n3
    have b6 := b45.ext E7 (fun h => nb _ h rfl)
    refine ⟨s1, w6, hr6, ⟨hbox6.cell0, by rw [← hn]; exact b6.row⟩, p, rfl, hbox6.canW0 (by simp), ?_⟩
    intro w7 hw7
    have hbox7 : Box w7 p [s1.v, .map (some m)] 132 := by rw [hw7]; exact hbox6.set0
    have E8 : Ext (· = p.block) w6 w7 := by rw [hw7]; exact Ext.setCell p _
    clear hw7
    have hs1p : ¬ s1.blk p.block := fun h => (hb6 _ h).elim hS.n2 (fun h => by have := hbox5.lt; omega)
    have hs1m : ¬ s1.blk m := fun h => (hb6 _ h).elim hS.n3 (fun h => by have := hmap5.lt; omega)
    have hrows7 := hrows6.ext E8 (fun b hb e => hs1p (by rw [← e]; exact hb))
    have hmap7 := hmap6.ext E8 hS.n1
    have b7 := b6.ext E8 (fun e => o2 (by rw [e]; exact (hF _).2 (.inl rfl)))
    have hl1 : (s1.len : Int) = L.length + 1 := by rw [hrows6.len]; simp
    refine ⟨p, rfl, s1, hbox7.cell0, ?_⟩
    refine ⟨fun w' => w'.cell? (p.add 1) = some (.map (some m)) ∧ Row w' p2 (nrow n), ⟨?_, ?_⟩, ?_⟩
    ·exact Ext.cell (F := None) (Ext.drew w7) (hbox7.cell (i := 1) rfl) id
    ·rw [← hn]; exact Ext.row (F := None) (Ext.drew w7) b7.row id
    intro w8 hw8
    have E9 : Pure w7 w8 := by rw [hw8]; exact Ext.drew w7
    clear hw8
    refine ⟨p, rfl, some m, fun w' h => h.1, k, f, t, u, x, a, b, fun w' h => by have := h.2; rw [← hn] at this; exact this, ?_⟩
    rw [hkey, hl1]
    have hmap8 : CMap w8 m (pmap L) := hmap7.ext E9 id
    obtain ⟨w9, hr9, hmap9, E10⟩ := hmap8.insert (P := Try.prog) (v := .int .i64 ((L.length : Int) + 1)) Try.underlying129 keyOK_node pmap_keys ⟨n, rfl⟩ hnot
    refine ⟨w9, hr9, hK _ _ _ ?_⟩
    rw [hmk]
    have hbox9 := (hbox7.pure E9).ext E10 (fun e => hS.n1 e.symm)
    have hrows9 := (hrows7.pure E9).ext E10 (fun b hb e => hs1m (by rw [← e]; exact hb))
    refine ⟨rfl, fun b => b = p.block ∨ s1.blk b ∨ b = m, ⟨s1, m, ⟨hbox9, ?_, ?_, hS.n1, hs1p, hs1m⟩, fun _ => Iff.rfl⟩, ?_, ?_⟩
    ·simpa using hrows9
    ·rw [pmap_snoc]; simpa using hmap9
    ·have hF' : ∀ b, F b ↔ (b = p.block ∨ s.blk b ∨ b = m) := hF
     have Ea : Ext F w w5 := ((E4.trans E5).trans E6).pure
     have Eb : Ext F w w6 := Ea.trans' E7 (fun i _ h => (hF' i).2 (.inr (.inl h)))
     have Ec : Ext F w w7 := Eb.trans' E8 (fun i _ h => (hF' i).2 (.inl h))
     have Ed : Ext F w w8 := Ec.thenPure E9
     exact Ed.trans' E10 (fun i _ h => (hF' i).2 (.inr (.inr h)))
    ·intro b hb
     rcases hb with rfl | hb | rfl
     ·exact .inl ((hF _).2 (.inl rfl))
     ·rcases hb6 b hb with h | h
      ·exact .inl ((hF _).2 (.inr (.inl h)))
      ·right; have := ((E4.trans E5).trans E6).size; omega
     ·exact .inl ((hF _).2 (.inr (.inr rfl)))
  ·obtain ⟨e, he, hen, rfl⟩ := pmap_get hi
   refine ⟨_, _, hrun, Br.t rfl (hK _ _ _ ?_)⟩
   have hfd := find_of hok he
   rw [hen] at hfd
   have : Sp.make L n = ((i : Int) + 1, 0, L) := by unfold Sp.make; simp [← hck, hfd]
   rw [this]; exact ⟨by simp, same _ E4⟩
end Go.Proofs
end
section
open Go Go.SE
namespace Go.Sp
def madeS (L : Pool) (S : List Way) (t : Int) : Int × Int × Bool × Bool :=
 if inP L t = false then (0, 0, false, false)
 else if freeK (nodeOf L t).kind = true then (0, 0, true, true)
 else if (nodeOf L t).kind = 4 then ((nodeOf L t).a, (nodeOf L t).b, false, true)
 else if (nodeOf L t).kind = 5 then ((nodeOf L t).a, 0, false, true)
 else if (nodeOf L t).kind = 6 then (0, 0, false, false)
 else ((nodeOf L t).a, (keyOf L (whoOf (nodeOf L t))).1, false, (keyOf L (whoOf (nodeOf L t))).2 && decide ((keyOf L (whoOf (nodeOf L t))).1 ∈ wkeys S))
end Go.Sp
namespace Go.Proofs
attribute [local irreducible] Calls
theorem c_Has (p : Addr) (n : Sp.Node) (w0 : World) {L : Sp.Pool} {F : NP} (hP : PoolAt w0 p L F) (hok : Sp.Ok L) :
  Calls Try.prog 138 #[.pointer (some p), nkey n] w0 (fun e w' => ∃ r : Int, ∃ ok : Bool, e = .returned (.tuple #[.int .i64 r, .bool ok]) ∧ ((match Sp.find L n with | some i => r = (i : Int) + 1 ∧ ok = true | none => r = 0 ∧ ok = false) ∧ Pure w0 w')) := by
 obtain ⟨k, f, t, u, x, a, b⟩ := n
 generalize hn : (⟨k, f, t, u, x, a, b⟩ : Sp.Node) = n
 have hkey : (Value.agg #[.int .i64 k, .int .i64 f, .int .i64 t, .int .u64 u, .string x, .int .i64 a, .int .i64 b]) = nkey n := by rw [← hn]; rfl
 rw [← hkey]
 refine w_N2 _ _ _ _ _ _ _ _ w0 (fun r ok w' => (match Sp.find L n with | some i => r = (i : Int) + 1 ∧ ok = true | none => r = 0 ∧ ok = false) ∧ Pure w0 w') ?_
 unfold m_N2
 intro p2 w1 h1
 have b1 := Box.of_new h1
 have E1 : Pure w0 w1 := Ext.new h1
 refine Br.f rfl ?_
 rintro _ rfl
 have Ed : Pure w1 w1.drew := Ext.drew w1
 have E2 := E1.trans Ed
 obtain ⟨s, m, hS, hF⟩ := hP.pure E2
 refine ⟨p, rfl, _, hS.box.cell (i := 1) rfl, _, _, _, _, _, _, _, (b1.pure Ed).row, ?_⟩
 rw [hkey]
 rcases hS.map.lookup (P := Try.prog) (T := 129) (E := 32) Try.underlying129 keyOK_node pmap_keys ⟨n, rfl⟩ (Try.zeroValue32 _) true with ⟨hnot, hrun⟩ | ⟨i, v, hi, hrun⟩
 ·refine ⟨_, _, hrun, ?_, E2⟩
  rw [find_none (pmap_not hnot)]; exact ⟨rfl, rfl⟩
 ·obtain ⟨e, he, hen, rfl⟩ := pmap_get hi
  refine ⟨_, _, hrun, ?_, E2⟩
  rw [← hen, find_of hok he]; exact ⟨by simp, rfl⟩
abbrev MakePost (p : Addr) (L : Sp.Pool) (F : NP) (w : World) (n : Sp.Node) (e : Ending) (w' : World) : Prop :=
 ∃ r1 : Int, ∃ r2 : Int, e = .returned (.tuple #[.int .i64 r1, .int .i64 r2]) ∧ ((r1, r2) = ((Sp.make L n).1, (Sp.make L n).2.1) ∧ ∃ F', PoolAt w' p (Sp.make L n).2.2 F' ∧ Ext F w w' ∧ ∀ b, F' b → F b ∨ w.heap.size ≤ b)
section
variable (p : Addr) (w0 : World) {L : Sp.Pool} {F : NP} (hP : PoolAt w0 p L F) (hok : Sp.Ok L)
include hP hok
theorem c_Name (n : Int) : Calls Try.prog 79 #[.pointer (some p), .int .i64 n] w0 (MakePost p L F w0 ⟨1, n, 0, 0, ⟨#[]⟩, 0, 0⟩) := by
 refine w_H2 _ _ w0 (fun r1 r2 w' => (r1, r2) = ((Sp.make L ⟨1, n, 0, 0, ⟨#[]⟩, 0, 0⟩).1, (Sp.make L ⟨1, n, 0, 0, ⟨#[]⟩, 0, 0⟩).2.1) ∧ ∃ F', PoolAt w' p (Sp.make L ⟨1, n, 0, 0, ⟨#[]⟩, 0, 0⟩).2.2 F' ∧ Ext F w0 w' ∧ ∀ b, F' b → F b ∨ w0.heap.size ≤ b) ?_
 unfold m_H2
 refine (c_Make p _ _ _ _ _ _ _ w0 hP hok).mono ?_
 rintro _ w1 ⟨r1, r2, rfl, h⟩
 exact ⟨r1, r2, rfl, h⟩
theorem c_Pair (a b : Int) : Calls Try.prog 80 #[.pointer (some p), .int .i64 a, .int .i64 b] w0 (MakePost p L F w0 ⟨4, 0, 0, 0, ⟨#[]⟩, a, b⟩) := by
 refine w_I2 _ _ _ w0 (fun r1 r2 w' => (r1, r2) = ((Sp.make L ⟨4, 0, 0, 0, ⟨#[]⟩, a, b⟩).1, (Sp.make L ⟨4, 0, 0, 0, ⟨#[]⟩, a, b⟩).2.1) ∧ ∃ F', PoolAt w' p (Sp.make L ⟨4, 0, 0, 0, ⟨#[]⟩, a, b⟩).2.2 F' ∧ Ext F w0 w' ∧ ∀ b, F' b → F b ∨ w0.heap.size ≤ b) ?_
 unfold m_I2
 refine (c_Make p _ _ _ _ _ _ _ w0 hP hok).mono ?_
 rintro _ w1 ⟨r1, r2, rfl, h⟩
 exact ⟨r1, r2, rfl, h⟩
end
end Go.Proofs
end
section
open Go Go.SE
namespace Go.Proofs
attribute [local irreducible] Calls
def Sp.nodeErr (n : Sp.Node) : Int :=
 if Sp.plainErr n ≠ 0 then 53 else if (decide ((Sp.shapeOf n.kind).kids < 1) && n.a != 0) || (decide ((Sp.shapeOf n.kind).kids < 2) && n.b != 0) then 53 else Sp.fieldsErr (Sp.shapeOf n.kind) n
end Go.Proofs
end
section
open Go Go.SE
namespace Go.Proofs
attribute [local irreducible] Calls
theorem slT_int : SlType Try.prog 69 3 1 8 := by
 refine ⟨Try.underlying69, ⟨Try.t3, _, by kernel_rfl, (by kernel_rfl : Try.t3.zero = some (.int .i64 0)), by kernel_rfl, by kernel_rfl, rfl⟩, by omega⟩
def rnode (e : Sp.Ent) : List Value := nrow e.node
def rsize (e : Sp.Ent) : List Value := [.int .i64 e.size]
def rdepth (e : Sp.Ent) : List Value := [.int .i64 e.depth]
structure PoolRS (w : World) (p : Addr) (L : Sp.Pool) (s1 s2 s3 : Sl) : Prop where
 box : Box w p [s1.v, s2.v, s3.v] 71
 r1 : Rws w 106 7 s1 (L.map rnode)
 r2 : Rws w 3 1 s2 (L.map rsize)
 r3 : Rws w 3 1 s3 (L.map rdepth)
 n1 : ¬ s1.blk p.block
 n2 : ¬ s2.blk p.block
 n3 : ¬ s3.blk p.block
 d12 : ∀ b, s1.blk b → ¬ s2.blk b
 d13 : ∀ b, s1.blk b → ¬ s3.blk b
 d23 : ∀ b, s2.blk b → ¬ s3.blk b
def PoolR (w : World) (p : Addr) (L : Sp.Pool) (F : NP) : Prop := ∃ s1 s2 s3, PoolRS w p L s1 s2 s3 ∧ ∀ b, F b ↔ (b = p.block ∨ s1.blk b ∨ s2.blk b ∨ s3.blk b)
theorem PoolR.ext {G : NP} {w w' : World} {p : Addr} {L : Sp.Pool} {F : NP} (h : PoolR w p L F) (hE : Ext G w w') (hd : ∀ b, F b → ¬ G b) : PoolR w' p L F := by
 obtain ⟨s1, s2, s3, h, hF⟩ := h
 exact ⟨s1, s2, s3, ⟨h.box.ext hE (hd _ ((hF _).2 (.inl rfl))), h.r1.ext hE (fun b hb => hd _ ((hF _).2 (.inr (.inl hb)))), h.r2.ext hE (fun b hb => hd _ ((hF _).2 (.inr (.inr (.inl hb))))), h.r3.ext hE (fun b hb => hd _ ((hF _).2 (.inr (.inr (.inr hb))))), h.n1, h.n2, h.n3, h.d12, h.d13, h.d23⟩, hF⟩
theorem PoolR.pure {w w' : World} {p : Addr} {L : Sp.Pool} {F : NP} (h : PoolR w p L F) (hE : Pure w w') : PoolR w' p L F := h.ext hE (fun _ _ h => h)
theorem PoolR.lt {w : World} {p : Addr} {L : Sp.Pool} {F : NP} (h : PoolR w p L F) {b : Nat} (hb : F b) : b < w.heap.size := by
 obtain ⟨s1, s2, s3, h, hF⟩ := h
 rcases (hF b).1 hb with rfl | hb | hb | hb
 ·exact h.box.lt
 ·exact h.r1.lt hb
 ·exact h.r2.lt hb
 ·exact h.r3.lt hb
end Go.Proofs
end
section
open Go Go.SE
namespace Go.Proofs
attribute [local irreducible] Calls
end Go.Proofs
end
section
open Go Go.SE
namespace Go.Proofs
attribute [local irreducible] Calls
def trow (t : Sp.Tree) (s : Sl) : List Value := [.int .i64 t.node.kind, .int .i64 t.node.frm, .int .i64 t.node.to, .int .u64 t.node.num, .string t.node.text, s.v]
inductive TreeAt (S : NP) (w : World) : Sl → Sp.Tree → Prop
 | mk (k f t u : Int) (x : ByteArray) (ks : List Sp.Tree) (s : Sl) (rs : Nat → Sl) (len : s.len = ks.length) (fit : ks.length ≤ 9223372036854775807)
   (row : ∀ i (h : i < ks.length), ∃ a, At s i 6 a ∧ S a.block ∧ Row w a (trow ks[i] (rs i))) (kid : ∀ i (h : i < ks.length), TreeAt S w (rs i) ks[i]) : TreeAt S w s (.mk k f t u x ks)
theorem TreeAt.ext {S F : NP} {w w' : World} {s : Sl} {t : Sp.Tree} (h : TreeAt S w s t) (hE : Ext F w w') (hd : ∀ b, S b → ¬ F b) : TreeAt S w' s t := by
 induction h with
 | mk k f t u x ks s rs len fit row kid ih =>
  exact .mk k f t u x ks s rs len fit (fun i h => let ⟨a, h1, h2, h3⟩ := row i h; ⟨a, h1, h2, hE.row h3 (hd _ h2)⟩) ih
theorem TreeAt.pure {S : NP} {w w' : World} {s : Sl} {t : Sp.Tree} (h : TreeAt S w s t) (hE : Pure w w') : TreeAt S w' s t := h.ext hE (fun _ _ h => h)
theorem TreeAt.mono {S S' : NP} {w : World} {s : Sl} {t : Sp.Tree} (h : TreeAt S w s t) (hd : ∀ b, S b → S' b) : TreeAt S' w s t := by
 induction h with
 | mk k f t u x ks s rs len fit row kid ih =>
  exact .mk k f t u x ks s rs len fit (fun i h => let ⟨a, h1, h2, h3⟩ := row i h; ⟨a, h1, hd _ h2, h3⟩) ih
theorem TreeAt.lt {S : NP} {w : World} {s : Sl} {t : Sp.Tree} (h : TreeAt S w s t) : TreeAt (fun b => S b ∧ b < w.heap.size) w s t := by
 induction h with
 | mk k f t u x ks s rs len fit row kid ih =>
  refine .mk k f t u x ks s rs len fit (fun i h => let ⟨a, h1, h2, h3⟩ := row i h; ⟨a, h1, ⟨h2, ?_⟩, h3⟩) ih
  have := h3 0 (by simp [trow])
  unfold World.cell? at this
  refine Classical.byContradiction fun hge => ?_
  have : w.heap[(a.add 0).block]? = none := by rw [add_block]; exact Array.getElem?_eq_none (by omega)
  simp_all [trow]
theorem c_nodeOf (k f t u : Int) (x : ByteArray) (s : Sl) (w : World) :
  Calls Try.prog 131 #[.agg #[.int .i64 k, .int .i64 f, .int .i64 t, .int .u64 u, .string x, s.v]] w
   (fun e w' => ∃ k' : Int, ∃ f' : Int, ∃ t' : Int, ∃ u' : Int, ∃ x' : ByteArray, ∃ a : Int, ∃ b : Int, e = .returned (.agg #[.int .i64 k', .int .i64 f', .int .i64 t', .int .u64 u', .string x', .int .i64 a, .int .i64 b]) ∧ ((⟨k', f', t', u', x', a, b⟩ : Sp.Node) = ⟨k, f, t, u, x, 0, 0⟩ ∧ Pure w w')) := by
 refine w_L2 _ _ _ _ _ _ w (fun k' f' t' u' x' a b w' => (⟨k', f', t', u', x', a, b⟩ : Sp.Node) = ⟨k, f, t, u, x, 0, 0⟩ ∧ Pure w w') ?_
 unfold m_L2
 intro p1 w1 h1 p2 w2 h2
 have E1 : Pure w w1 := Ext.new h1
 have b1 := (Box.of_new h1).pure (Ext.new h2)
 refine ⟨_, b1.cell0, _, b1.cell rfl, _, b1.cell rfl, _, b1.cell rfl, _, b1.cell rfl, ?_⟩
 exact bx 7 (Box.of_new h2) rfl rfl (fun w' b E => ⟨_, _, _, _, _, _, _, b.row, rfl, (E1.trans (Ext.new h2)).own (New.own E1 h2) E⟩)
theorem looks_mono (t : Sp.Tree) : ∀ i n : Int, 0 ≤ n → 0 ≤ (Sp.looks i n t).2 := by
 induction t using Sp.Tree.ind with
 | h k f t u x ks ih =>
  have : ∀ (ks : List Sp.Tree), (∀ i (hi : i < ks.length), ∀ j n : Int, 0 ≤ n → 0 ≤ (Sp.looks j n ks[i]).2) → ∀ i e n : Int, 0 ≤ n → 0 ≤ (Sp.looksAll i e n ks).2 := by
   intro ks
   induction ks with
   | nil => intro _ i e n h; simpa [Sp.looksAll] using h
   | cons t ts iht =>
    intro hh i e n h
    unfold Sp.looksAll
    split
    ·exact iht (fun i hi => hh (i + 1) (by simpa using hi)) _ _ _ (hh 0 (by simp) i n h)
    ·exact h
  intro i n h
  unfold Sp.looks
  split
  ·exact h
  ·split
   ·exact h
   ·exact this ks ih _ _ _ (by omega)
theorem looksAll_drop {ks : List Sp.Tree} {j : Nat} (hj : j < ks.length) (i n : Int) : Sp.looksAll i 0 n (ks.drop j) = Sp.looksAll i (Sp.looks i n ks[j]).1 (Sp.looks i n ks[j]).2 (ks.drop (j + 1)) := by
 rw [List.drop_eq_getElem_cons hj, Sp.looksAll, if_pos rfl]
theorem looksAll_bad {ks : List Sp.Tree} {e : Int} (h : e ≠ 0) (i n : Int) : Sp.looksAll i e n ks = (e, n) := by
 cases ks <;> simp [Sp.looksAll, h]
theorem c_looks {S : NP} (q : Addr) (hq : ¬ S q.block) (T : TypeId) (t : Sp.Tree) : ∀ (s : Sl) (inside seen : Int) (w : World), 0 ≤ inside → 0 ≤ seen → TreeAt S w s t → Box w q [.int .i64 seen] T →
  Calls Try.prog 82 #[.agg (trow t s).toArray, .int .i64 inside, .pointer (some q)] w
   (fun e w' => ∃ r : Int, e = .returned (.int .i64 r) ∧ (r = (Sp.looks inside seen t).1 ∧ Box w' q [.int .i64 (Sp.looks inside seen t).2] T ∧ Ext (· = q.block) w w')) := by
 induction t using Sp.Tree.ind with
 | h k f t u x ks ih =>
 intro s inside seen w hi0 hn0 hT hB
 suffices key : ∀ K : Int → WP, (∀ r w', (r = (Sp.looks inside seen (.mk k f t u x ks)).1 ∧ Box w' q [.int .i64 (Sp.looks inside seen (.mk k f t u x ks)).2] T ∧ Ext (· = q.block) w w') → K r w') → m_D k f t u x s inside (some q) w K from
  w_D _ _ _ _ _ _ _ _ w _ (key _ (fun _ _ h => h))
 intro K hK
 unfold m_D
 intro p1 w1 h1
 have b1 := Box.of_new h1
 have E1 : Pure w w1 := Ext.new h1
 have n1 : q.block ≠ p1.block := New.ne h1 hB.blk
 have hB1 := hB.pure E1
 have hT1 := hT.pure E1
 refine ⟨q, rfl, seen, hB1.cell0, fun h => ?_, fun h => ⟨fun h' => ?_, fun h' => ?_⟩⟩
 ·have h := of_decide_eq_true h
  have : Sp.looks inside seen (.mk k f t u x ks) = (52, seen) := by rw [Sp.looks, if_pos (by omega)]
  rw [this] at hK; exact hK _ _ ⟨rfl, hB1, E1.pure⟩
 ·have h := of_decide_eq_false h; have h' := of_decide_eq_true h'
  have : Sp.looks inside seen (.mk k f t u x ks) = (52, seen) := by rw [Sp.looks, if_neg (by omega), if_pos (by omega)]
  rw [this] at hK; exact hK _ _ ⟨rfl, hB1, E1.pure⟩
 have h := of_decide_eq_false h; have h' := of_decide_eq_false h'
 have hsp : Sp.looks inside seen (.mk k f t u x ks) = Sp.looksAll (inside + 1) (Sp.ownErr ⟨k, f, t, u, x, 0, 0⟩ ks.length) (seen + 1) ks := by rw [Sp.looks, if_neg (by omega), if_neg (by omega)]
 rw [hsp] at hK
 unfold m_D_j1
 refine ⟨q, rfl, seen, hB1.cell0, q, rfl, hB1.canW0 (by simp), ?_⟩
 rw [i64 (n := seen + 1) (by omega) (by omega)]
 intro w2 hw2
 have hB2 : Box w2 q [.int .i64 (seen + 1)] T := by rw [hw2]; exact hB1.set0
 have E12 : Ext (· = q.block) w1 w2 := by rw [hw2]; exact Ext.setCell q _
 clear hw2
 have b2 := b1.ext E12 (fun e => n1 e.symm)
 have hT2 := hT1.ext E12 (fun b hb e => hq (e ▸ hb))
 have E2 : Ext (· = q.block) w w2 := E1.pure.trans E12
 refine ⟨_, _, _, _, _, _, b2.row, ?_⟩
 refine (c_nodeOf _ _ _ _ _ _ w2).mono ?_
 rintro _ w3 ⟨k', f', t', u', x', a', b', rfl, hn, E23⟩
 cases hn
 refine ⟨_, _, _, _, _, _, _, rfl, ?_⟩
 intro p2 w4 h4
 have n2 : p1.block ≠ p2.block := New.ne h4 (b2.pure E23).blk
 have E24 : Pure w2 w4 := E23.trans (Ext.new h4)
 have o2 := New.own E23 h4
 refine bx 7 (Box.of_new h4) rfl rfl (fun w5 c2 E45 => ?_)
 have E25 : Pure w2 w5 := E24.own o2 E45
 refine ⟨_, _, _, _, _, _, _, c2.row, ?_⟩
 refine (c_plain _ _ _ _ _ _ _ w5).mono ?_
 rintro _ w6 ⟨s1, s2, s3, s4, s5, pe, rfl, ⟨hs, hpe⟩, E56⟩
 refine ⟨_, _, _, _, _, _, rfl, ?_⟩
 intro p3 w7 h7
 have n3 : p2.block ≠ p3.block := New.ne h7 (c2.pure E56).blk
 have E27 : Pure w2 w7 := (E25.trans E56).trans (Ext.new h7)
 have o3 := New.own (E25.trans E56) h7
 refine bx 5 (Box.of_new h7) rfl rfl (fun w8 c3 E78 => ?_)
 have E28 : Pure w2 w8 := E27.own o3 E78
 have d2 := ((c2.pure E56).pure (Ext.new h7)).ext E78 n3
 have d1 := b2.pure E28
 have hB8 := hB2.pure E28
 have hT8 := hT2.pure E28
 have E8 : Ext (· = q.block) w w8 := E2.thenPure E28
 clear E78 E27 E56 E25 E45 E24 E23 E12 c2 b2 b1 hT2 hT1 hB1 h1 h4 h7
 have hlen : s.len = ks.length := by cases hT; assumption
 have hfit : ks.length ≤ 9223372036854775807 := by cases hT; assumption
 have hsh : Sp.shapeOf k = ⟨s1, s2, s3, s4, s5⟩ := hs.symm
 have J3 : ∀ e w', Pure w8 w' → e = Sp.ownErr ⟨k, f, t, u, x, 0, 0⟩ ks.length → m_D_j3 inside (some q) p1 e w' K := by
  intro e w' E hown
  rw [← hown] at hK
  unfold m_D_j3
  refine ⟨fun e i w' => ∃ j : Nat, i = j ∧ j ≤ ks.length ∧ ∃ n : Int, 0 ≤ n ∧ Ext (· = q.block) w8 w' ∧ Box w' q [.int .i64 n] T ∧ Sp.looksAll (inside + 1) e n (ks.drop j) = Sp.looksAll (inside + 1) (Sp.ownErr ⟨k, f, t, u, x, 0, 0⟩ ks.length) (seen + 1) ks, fun _ i _ => ((ks.length : Int) - i).toNat, ⟨0, rfl, Nat.zero_le _, seen + 1, by omega, E.pure, hB8.pure E, by rw [hown]; rfl⟩, ?_⟩
  rintro e1 _ wl ⟨j, rfl, hj, n, hn, El, hBl, heq⟩
  unfold m_D_l4
  have dl := d1.ext El (fun e => n1 e.symm)
  have hTl := hT8.ext El (fun b hb e => hq (e ▸ hb))
  rw [← hown] at heq
  have fin : ∀ n', Sp.looksAll (inside + 1) e ((seen : Int) + 1) ks = (e1, n') → n' = n → K e1 wl := by
   rintro n' h rfl
   refine hK _ _ ⟨by rw [h], by rw [h]; exact hBl, E8.trans El⟩
  refine ⟨s, dl.cell rfl, fun hlt => ⟨fun he => ?_, fun he => ?_⟩, fun hlt => ?_⟩
  ·have hlt : j < ks.length := by have h := of_decide_eq_true hlt; omega
   have he : e1 = 0 := by simpa using he
   subst he
   cases hTl with
   | mk _ _ _ _ _ _ _ rs len fit row kid =>
   obtain ⟨a, hat, ha, hr⟩ := row j hlt
   refine ⟨s, dl.cell rfl, a, hat, _, _, _, _, _, rs j, hr, ?_⟩
   rw [i64 (n := inside + 1) (by omega) (by omega)]
   refine (ih j hlt (rs j) (inside + 1) n wl (by omega) hn (kid j hlt) hBl).mono ?_
   rintro _ w9 ⟨r, rfl, rfl, hB9, E9⟩
   rw [looksAll_drop hlt] at heq
   refine ⟨_, rfl, ⟨j + 1, ?_, hlt, _, looks_mono _ _ _ hn, El.trans E9, hB9, by rw [← hown]; exact heq⟩, ?_⟩
   ·rw [i64 (by omega) (by omega)]; omega
   ·show ((ks.length : Int) - IntKind.i64.wrap ((j : Int) + 1)).toNat < ((ks.length : Int) - (j : Int)).toNat
    rw [i64 (by omega) (by omega)]; omega
  ·have he : e1 ≠ 0 := by simpa using he
   rw [looksAll_bad he] at heq
   exact fin _ heq.symm rfl
  ·have hge : j = ks.length := by have h := of_decide_eq_false hlt; omega
   rw [hge, List.drop_length, Sp.looksAll] at heq
   exact fin _ heq.symm rfl
 have J2 : ∀ e1, e1 = (if pe = 0 then if (ks.length : Int) ≠ s5 then 53 else 0 else pe) → m_D_j2 inside (some q) p1 p2 p3 e1 w8 K := by
  intro e1 he1
  have hown : Sp.ownErr ⟨k, f, t, u, x, 0, 0⟩ ks.length = if e1 = 0 then Sp.fieldsErr ⟨s1, s2, s3, s4, s5⟩ ⟨k, f, t, u, x, 0, 0⟩ else e1 := by
   unfold Sp.ownErr
   simp only [hsh, ← hpe, he1]
  unfold m_D_j2
  refine ⟨fun h => ⟨_, _, _, _, _, c3.row, _, _, _, _, _, _, _, d2.row, ?_⟩, fun h => J3 _ _ (Ext.refl _) ?_⟩
  ·have h : e1 = 0 := by simpa using h
   refine (c_fields _ _ _ _ _ _ _ _ _ _ _ _ _).mono ?_
   rintro _ w9 ⟨_, rfl, rfl, E9⟩
   exact ⟨_, rfl, J3 _ _ E9 (by rw [hown, if_pos h])⟩
  ·have h : e1 ≠ 0 := by simpa using h
   rw [hown, if_neg h]
 refine ⟨fun h => ⟨s, d1.cell rfl, s5, c3.cell rfl, fun h5 => J2 _ ?_, fun h5 => J2 _ ?_⟩, fun h => J2 _ ?_⟩
 ·have h : pe = 0 := by simpa using h
  have h5 : (s.len : Int) ≠ s5 := by simpa using h5
  rw [if_pos h, if_pos (by omega)]
 ·have h : pe = 0 := by simpa using h
  have h5 : (s.len : Int) = s5 := by simpa using h5
  rw [if_pos h, if_neg (by omega), h]
 ·have h : pe ≠ 0 := by simpa using h
  rw [if_neg h]
end Go.Proofs
end
section
open Go Go.SE
namespace Go.Proofs
attribute [local irreducible] Calls
theorem c_New (w : World) : Calls Try.prog 27 #[] w (fun e w' => ∃ r : Option Addr, e = .returned (.pointer r) ∧ ∃ p, r = some p ∧ Pure w w' ∧ ∃ F, PoolAt w' p [] F ∧ ∀ b, F b → w.heap.size ≤ b) := by
 refine w_D2 w (fun r w' => ∃ p, r = some p ∧ Pure w w' ∧ ∃ F, PoolAt w' p [] F ∧ ∀ b, F b → w.heap.size ≤ b) ?_
 unfold m_D2
 intro p1 w1 h1 p2 w2 h2
 have E1 : Pure w w1 := Ext.new h1
 have m2 : CMap w2 p1.block [] := (CMap.of_new h1).ext (Ext.new h2 : Pure w1 w2) id
 have n12 : p1.block ≠ p2.block := New.ne h2 h1.block_new
 refine ⟨p2, rfl, E1.trans (Ext.new h2), fun b => b = p2.block ∨ Sl.nil.blk b ∨ b = p1.block, ⟨Sl.nil, p1.block, ⟨Box.of_new h2, by simpa using Rws.nil _ _ _, by simpa [pmap] using m2, n12, ?_, ?_⟩, fun _ => Iff.rfl⟩, ?_⟩
 ·rintro ⟨a, h, _⟩; cases h
 ·rintro ⟨a, h, _⟩; cases h
 ·rintro b (rfl | ⟨a, h, _⟩ | rfl)
  ·exact New.own E1 h2
  ·cases h
  ·exact New.own (Ext.refl w) h1
theorem pmap_take (L : Sp.Pool) (n : Nat) : pmap (L.take n) = (pmap L).take n := by
 apply List.ext_getElem?; intro i
 simp only [pmap, List.getElem?_map, List.getElem?_zipIdx, List.getElem?_take]
 split <;> simp
theorem pmap_fst (L : Sp.Pool) : (pmap L).map (·.1) = (L.map (·.node)).map nkey := by
 apply List.ext_getElem?; intro i
 simp only [pmap, List.getElem?_map, List.getElem?_zipIdx]
 cases L[i]? <;> simp
theorem c_cut (p : Addr) (n : Nat) (w : World) {L : Sp.Pool} {F : NP} (hP : PoolAt w p L F) (hok : Sp.Ok L) (hn : n ≤ L.length) :
  Calls Try.prog 84 #[.pointer (some p), .int .i64 n] w (fun e w' => e = .returned (.tuple #[]) ∧ PoolAt w' p (L.take n) F ∧ Ext F w w') := by
 suffices key : ∀ K : WP, (∀ w', PoolAt w' p (L.take n) F ∧ Ext F w w' → K w') → m_S (some p) n w K from
  w_S _ _ w _ (key _ (fun _ h => h))
 intro K hK
 unfold m_S
 obtain ⟨s, m, hS, hF⟩ := hP
 have hfew := hok.few
 have hcap : s.len ≤ s.cap := by
  have := hS.rows.len
  rcases hS.rows.own with ⟨rfl, _⟩ | ⟨g, cur, _, _, hc, _⟩
  ·simp [Sl.nil]
  ·omega
 obtain ⟨s1, hr1, hl1⟩ := hS.rows.lst.lo (P := Try.prog) slT_entry hcap (k := .i64) (n := n) (by omega) (by simpa using hn)
 have hlen1 : s1.len = L.length - n := by rw [hl1.len]; simp
 refine ⟨p, rfl, s, hS.box.cell0, s1, hr1, ?_⟩
 refine ⟨fun x w' => ∃ j : Nat, x = j ∧ j ≤ L.length - n ∧ Ext (· = m) w w' ∧ CMap w' m ((pmap L).take n ++ (pmap L).drop (n + j)), fun x _ => ((L.length : Int) - x).toNat, ⟨0, rfl, Nat.zero_le _, Ext.refl w, by simpa using hS.map⟩, ?_⟩
 rintro _ wl ⟨j, rfl, hj, El, hml⟩
 have hboxl := hS.box.ext El hS.n1.symm
 have hrowsl := hS.rows.ext El (fun b hb e => hS.n3 (e ▸ hb))
 unfold m_S_l1
 refine ⟨fun h => ?_, fun h => ?_⟩
 ·have hlt : n + j < L.length := by have h := of_decide_eq_true h; omega
  have hll := hl1.ext El (fun b hb e => hS.n3 (e ▸ hb))
  obtain ⟨a, hat, _, hrow⟩ := hll.at_ j (by simp; omega)
  generalize he : L[n + j] = e at *
  have hrow' : Row wl a (erow e) := by
   have : ((L.map erow).drop ((n : Int).toNat))[j]'(by simp; omega) = erow e := by simp [he]
   rw [this] at hrow; exact hrow
  obtain ⟨nd, sz, dp⟩ := e
  obtain ⟨k, f, t, u, x, a1, b1⟩ := nd
  refine ⟨a, hat, _, _, _, _, _, _, _, _, _, hrow', ?_⟩
  intro p2 w1 h1
  have E1 : Pure wl w1 := Ext.new h1
  have o1 := New.own (Ext.refl wl) h1
  refine bx 9 (Box.of_new h1) rfl rfl (fun w2 b2 E => ?_)
  have E2 : Pure wl w2 := E1.own o1 E
  refine ⟨fun w' => w'.cell? (p.add 1) = some (.map (some m)) ∧ Row w' p2 (nrow ⟨k, f, t, u, x, a1, b1⟩), ⟨(hboxl.pure (E2.thenPure (Ext.drew w2))).cell (i := 1) rfl, ?_⟩, ?_⟩
  ·have : Row w2 p2 (nrow ⟨k, f, t, u, x, a1, b1⟩) := fun i hi => by
    have := b2.row i (by simp [nrow] at hi ⊢; omega)
    rw [this]
    have h7 : i < 7 := by simpa [nrow] using hi
    have : i = 0 ∨ i = 1 ∨ i = 2 ∨ i = 3 ∨ i = 4 ∨ i = 5 ∨ i = 6 := by omega
    rcases this with rfl | rfl | rfl | rfl | rfl | rfl | rfl <;> rfl
   exact Ext.row (F := None) (Ext.drew w2) this id
  intro w3 hw3
  have E3 : Pure wl w3 := by rw [hw3]; exact E2.thenPure (Ext.drew w2)
  clear hw3
  refine ⟨p, rfl, some m, fun w' h => h.1, k, f, t, u, x, a1, b1, fun w' h => h.2, ?_⟩
  have hm3 := hml.ext E3 id
  have hpl : (pmap L).length = L.length := by simp [pmap]
  have hget : (pmap L)[n + j]? = some (nkey ⟨k, f, t, u, x, a1, b1⟩, .int .i64 (n + j + 1 : Nat)) := by
   simp only [pmap, List.getElem?_map, List.getElem?_zipIdx, List.getElem?_eq_getElem hlt, he]; simp
  have hidx : ((pmap L).take n ++ (pmap L).drop (n + j))[n]? = some (nkey ⟨k, f, t, u, x, a1, b1⟩, .int .i64 (n + j + 1 : Nat)) := by
   have e0 : n + j + (n - ((pmap L).take n).length) = n + j := by rw [List.length_take]; omega
   rw [List.getElem?_append_right (by rw [List.length_take]; omega), List.getElem?_drop, e0, hget]
  have hnd : ((pmap L).map (·.1)).Nodup := by
   rw [pmap_fst, List.nodup_iff_pairwise_ne, List.pairwise_map]
   exact hok.nodup.imp (fun h e => h (nkey_inj.1 e))
  have hsub : List.Sublist ((pmap L).take n ++ (pmap L).drop (n + j)) (pmap L) := by
   conv => rhs; rw [← List.take_append_drop n (pmap L)]
   refine (List.Sublist.refl _).append ?_
   have e0 : (pmap L).drop (n + j) = ((pmap L).drop n).drop j := by rw [List.drop_drop]
   rw [e0]; exact List.drop_sublist _ _
  have hnd2 : (((pmap L).take n ++ (pmap L).drop (n + j)).map (·.1)).Nodup := hnd.sublist (hsub.map _)
  obtain ⟨w4, hr4, hm4, E4⟩ := hm3.delete (P := Try.prog) (Q := 106) (z := 0) Try.underlying129 keyOK_node (fun q hq => pmap_keys q (hsub.subset hq)) ⟨_, rfl⟩ hidx (fun i u hi => by
   obtain ⟨hi1, hi2⟩ := List.getElem?_eq_some_iff.1 hi
   obtain ⟨hn1, hn2⟩ := List.getElem?_eq_some_iff.1 hidx
   refine Classical.byContradiction fun hne => ?_
   have hne := List.pairwise_iff_getElem.1 hnd2
   rcases Nat.lt_or_gt_of_ne ‹_› with hlt | hlt
   ·exact hne i n (by simpa using hi1) (by simpa using hn1) hlt (by rw [List.getElem_map, List.getElem_map, hi2, hn2])
   ·exact hne n i (by simpa using hn1) (by simpa using hi1) hlt (by rw [List.getElem_map, List.getElem_map, hi2, hn2]))
  refine ⟨w4, hr4, ⟨j + 1, ?_, by omega, (El.trans E3.pure).trans E4, ?_⟩, ?_⟩
  ·rw [i64 (by omega) (by omega)]; omega
  ·rw [List.eraseIdx_append_of_length_le (by rw [List.length_take]; omega)] at hm4
   have : n - ((pmap L).take n).length = 0 := by rw [List.length_take]; omega
   rw [this] at hm4
   have hd : ((pmap L).drop (n + j)).eraseIdx 0 = (pmap L).drop (n + (j + 1)) := by
    rw [List.drop_eq_getElem_cons (by omega)]; simp; rfl
   rw [hd] at hm4; exact hm4
  ·show ((L.length : Int) - IntKind.i64.wrap ((j : Int) + 1)).toNat < ((L.length : Int) - (j : Int)).toNat
   rw [i64 (by omega) (by omega)]; omega
 ·have hge : n + j = L.length := by have h := of_decide_eq_false h; omega
  have hpl : (pmap L).length = L.length := by simp [pmap]
  rw [hge, ← hpl, List.drop_length, List.append_nil] at hml
  obtain ⟨s2, hr2, hrows2, hb2⟩ := hrowsl.hi (P := Try.prog) slT_entry (k := .i64) (n := n) (by omega) (by simpa using hn)
  refine ⟨p, rfl, s, hboxl.cell0, s2, hr2, p, rfl, hboxl.canW0 (by simp), ?_⟩
  rintro w5 hw5
  have hbox5 : Box w5 p [s2.v, .map (some m)] 132 := by rw [hw5]; exact hboxl.set0
  have E5 : Ext (· = p.block) wl w5 := by rw [hw5]; exact Ext.setCell p _
  clear hw5
  refine hK _ ⟨⟨s2, m, ⟨hbox5, ?_, ?_, hS.n1, fun h => hS.n2 ((hb2 _).1 h), fun h => hS.n3 ((hb2 _).1 h)⟩, fun b => by rw [hF b, hb2 b]⟩, ?_⟩
  ·have := hrows2.ext E5 (fun b hb e => hS.n2 (by rw [← e]; exact (hb2 _).1 hb))
   simpa using this
  ·rw [pmap_take]; exact hml.ext E5 hS.n1
  ·exact (El.mono (fun i _ h => (hF i).2 (.inr (.inr h)))).trans' E5 (fun i _ h => (hF i).2 (.inl h))
end Go.Proofs
end
section
open Go Go.SE
namespace Go.Proofs
attribute [local irreducible] Calls
theorem growAll_bad {n : Sp.Node} {i : Nat} {L : Sp.Pool} {t : Sp.Tree} {ts : List Sp.Tree} (h : (Sp.grow L t).2.1 ≠ 0) : Sp.growAll n i L (t :: ts) = (0, (Sp.grow L t).2.1, (Sp.grow L t).2.2) := by rw [Sp.growAll, if_pos h]
theorem growAll_good {n : Sp.Node} {i : Nat} {L : Sp.Pool} {t : Sp.Tree} {ts : List Sp.Tree} (h : (Sp.grow L t).2.1 = 0) : Sp.growAll n i L (t :: ts) = Sp.growAll (if i = 0 then { n with a := (Sp.grow L t).1 } else { n with b := (Sp.grow L t).1 }) (i + 1) (Sp.grow L t).2.2 ts := by rw [Sp.growAll, if_neg (by simp [h])]
def Sp.Tree.two (t : Sp.Tree) : Prop := Sp.Tree.rec (motive_1 := fun _ => Prop) (motive_2 := fun _ => Prop) (fun _ _ _ _ _ ks h => ks.length ≤ 2 ∧ h) True (fun _ _ h1 h2 => h1 ∧ h2) t
def twoAll : List Sp.Tree → Prop
 | [] => True
 | t :: ts => Sp.Tree.two t ∧ twoAll ts
theorem two_mk {k f t u : Int} {x : ByteArray} {ks : List Sp.Tree} : Sp.Tree.two (.mk k f t u x ks) ↔ ks.length ≤ 2 ∧ twoAll ks := by
 have : ∀ ks : List Sp.Tree, (Sp.Tree.rec_1 (motive_1 := fun _ => Prop) (motive_2 := fun _ => Prop) (fun _ _ _ _ _ ks h => ks.length ≤ 2 ∧ h) True (fun _ _ h1 h2 => h1 ∧ h2) ks : Prop) = twoAll ks := by
  intro ks
  induction ks with
  | nil => rfl
  | cons t ts ih => show (Sp.Tree.two t ∧ _) = (Sp.Tree.two t ∧ _); rw [ih]
 show (ks.length ≤ 2 ∧ _) ↔ _
 rw [this]
theorem twoAll_get {ks : List Sp.Tree} (h : twoAll ks) {i : Nat} (hi : i < ks.length) : Sp.Tree.two ks[i] := by
 induction ks generalizing i with
 | nil => simp at hi
 | cons t ts ih =>
  cases i with
  | zero => exact h.1
  | succ i => exact ih h.2 (by simpa using hi)
theorem c_grow {S : NP} (p : Addr) (t : Sp.Tree) : ∀ (s : Sl) (w : World) (L : Sp.Pool) (F : NP), Sp.Tree.two t → TreeAt S w s t → PoolAt w p L F → Sp.Ok L → (∀ b, F b → ¬ S b) → (∀ b, S b → b < w.heap.size) →
  Calls Try.prog 83 #[.pointer (some p), .agg (trow t s).toArray] w
   (fun e w' => ∃ r1 : Int, ∃ r2 : Int, e = .returned (.tuple #[.int .i64 r1, .int .i64 r2]) ∧ ((r1, r2) = ((Sp.grow L t).1, (Sp.grow L t).2.1) ∧ ∃ F', PoolAt w' p (Sp.grow L t).2.2 F' ∧ Ext F w w' ∧ ∀ b, F' b → F b ∨ w.heap.size ≤ b)) := by
 induction t using Sp.Tree.ind with
 | h k f t u x ks ih =>
 intro s w L F h2 hT hP hok hFS hSw
 suffices key : ∀ K : Int → Int → WP, (∀ r1 r2 w', ((r1, r2) = ((Sp.grow L (.mk k f t u x ks)).1, (Sp.grow L (.mk k f t u x ks)).2.1) ∧ ∃ F', PoolAt w' p (Sp.grow L (.mk k f t u x ks)).2.2 F' ∧ Ext F w w' ∧ ∀ b, F' b → F b ∨ w.heap.size ≤ b) → K r1 r2 w') → m_R (some p) k f t u x s w K from
  w_R _ _ _ _ _ _ _ w _ (key _ (fun _ _ _ h => h))
 intro K hK
 obtain ⟨hk2, hall⟩ := two_mk.1 h2
 unfold m_R
 intro p2 w1 h1
 have b1 := Box.of_new h1
 have E1 : Pure w w1 := Ext.new h1
 refine ⟨_, _, _, _, _, _, b1.row, ?_⟩
 refine (c_nodeOf _ _ _ _ _ _ w1).mono ?_
 rintro _ w2 ⟨k', f', t', u', x', a', b', rfl, hn, E12⟩
 cases hn
 refine ⟨_, _, _, _, _, _, _, rfl, ?_⟩
 intro p3 w3 h3
 have E3 : Pure w w3 := (E1.trans E12).trans (Ext.new h3)
 have o3 := New.own (E1.trans E12) h3
 have n23 : p2.block ≠ p3.block := New.ne h3 (b1.pure E12).blk
 refine bx 7 (Box.of_new h3) rfl rfl (fun w4 b3 E34 => ?_)
 have E4 : Pure w w4 := E3.own o3 E34
 have b2 := ((b1.pure E12).pure (Ext.new h3)).ext E34 n23
 intro p4 w5 h5
 have E5 : Pure w w5 := E4.trans (Ext.new h5)
 have o4 := New.own E4 h5
 have n34 : p3.block ≠ p4.block := New.ne h5 b3.blk
 have c3 := b3.pure (Ext.new h5 : Pure w4 w5)
 have c4 := Box.of_new h5
 have c2 := b2.pure (Ext.new h5 : Pure w4 w5)
 refine ⟨s, c2.cell rfl, ?_⟩
 have hsp : Sp.grow L (.mk k f t u x ks) = Sp.growAll ⟨k, f, t, u, x, 0, 0⟩ 0 L ks := by rw [Sp.grow]
 rw [hsp] at hK
 have hlen : s.len = ks.length := by cases hT; assumption
 refine ⟨fun i w' => ∃ j : Nat, i = j ∧ j ≤ ks.length ∧ ∃ (nd : Sp.Node) (L' : Sp.Pool) (F' : NP), Sp.growAll ⟨k, f, t, u, x, 0, 0⟩ 0 L ks = Sp.growAll nd j L' (ks.drop j) ∧ Sp.Ok L' ∧ PoolAt w' p L' F' ∧ (∀ b, F' b → F b ∨ w.heap.size ≤ b) ∧ ¬ F' p3.block ∧ ¬ F' p4.block ∧ Ext F w w' ∧ Box w' p3 (nrow nd) 106 ∧ Box w' p4 [.pointer (some (p3.add 5)), .pointer (some (p3.add 6))] 206, fun i _ => ((ks.length : Int) - i).toNat,
  ⟨0, rfl, Nat.zero_le _, ⟨k, f, t, u, x, 0, 0⟩, L, F, by simp, hok, hP.pure E5, fun b h => .inl h, fun h => by have := hP.lt h; omega, fun h => by have := hP.lt h; omega, E5.pure, c3, c4⟩, ?_⟩
 rintro _ wl ⟨j, rfl, hj, nd, L', F', heq, hok', hPl, hF', hn3, hn4, El, d3, d4⟩
 unfold m_R_l1
 refine ⟨fun h => ?_, fun h => ?_⟩
 ·have hlt : j < ks.length := by have h := of_decide_eq_true h; omega
  have hTl : TreeAt S wl s (.mk k f t u x ks) := hT.ext El (fun b hs hf => hFS b hf hs)
  have hkid : ∀ i (h : i < ks.length), ∃ a r, At s i 6 a ∧ Row wl a (trow ks[i] r) ∧ TreeAt S wl r ks[i] := by
   cases hTl with
   | mk _ _ _ _ _ _ _ rs len fit row kid => exact fun i h => let ⟨a, h1, _, h3⟩ := row i h; ⟨a, rs i, h1, h3, kid i h⟩
  obtain ⟨a, r, hat, hrow, hTk⟩ := hkid j hlt
  refine ⟨a, hat, _, _, _, _, _, r, hrow, ?_⟩
  intro p5 w6 h6
  have o5 := New.own (Ext.refl wl) h6
  refine bx 6 (Box.of_new h6) rfl rfl (fun w7 b5 E67 => ?_)
  have E7 : Pure wl w7 := Ext.own (Ext.new h6) o5 E67
  refine ⟨_, _, _, _, _, r, b5.row, ?_⟩
  have hsz : w.heap.size ≤ wl.heap.size := El.size
  refine (ih j hlt r w7 L' F' (twoAll_get hall hlt) (hTk.pure E7) (hPl.pure E7) hok' (fun b hb hs => (hF' b hb).elim (fun h => hFS b h hs) (fun h => by have := hSw b hs; omega)) (fun b hs => by have := hSw b hs; have := E7.size; omega)).mono ?_
  rintro _ w8 ⟨r1, r2, rfl, hr, F8, hP8, E8, hF8⟩
  have e1 : r1 = (Sp.grow L' ks[j]).1 := congrArg Prod.fst hr
  have e2 : r2 = (Sp.grow L' ks[j]).2.1 := congrArg Prod.snd hr
  rw [List.drop_eq_getElem_cons hlt] at heq
  have hF8' : ∀ b, F8 b → F b ∨ w.heap.size ≤ b := fun b hb => (hF8 b hb).elim (hF' b) (fun h => by right; have := E7.size; omega)
  have Ew8 : Ext F w w8 := (El.thenPure E7).trans' E8 (fun i hi h => (hF' i h).elim id (fun h => by omega))
  refine ⟨_, _, rfl, fun h => ?_, fun h => ?_⟩
  ·have h : (Sp.grow L' ks[j]).2.1 ≠ 0 := by rw [← e2]; simpa using h
   rw [growAll_bad h] at heq
   refine hK _ _ _ ?_
   rw [heq]; exact ⟨by rw [e2], F8, hP8, Ew8, hF8'⟩
  ·have h : (Sp.grow L' ks[j]).2.1 = 0 := by rw [← e2]; simpa using h
   rw [growAll_good h] at heq
   have q3 := (d3.pure E7).ext E8 hn3
   have q4 := (d4.pure E7).ext E8 hn4
   have hs7 : wl.heap.size ≤ w7.heap.size := E7.size
   have n38 : ¬ F8 p3.block := fun h => (hF8 _ h).elim hn3 (fun h => by have := (d3.pure E7).lt; omega)
   have n48 : ¬ F8 p4.block := fun h => (hF8 _ h).elim hn4 (fun h => by have := (d4.pure E7).lt; omega)
   have hok8 := (Sp.grow_facts ks[j] L' hok').1
   have fin : ∀ (w9 : World) (nd' : Sp.Node), nd' = (if j = 0 then { nd with a := (Sp.grow L' ks[j]).1 } else { nd with b := (Sp.grow L' ks[j]).1 }) → Box w9 p3 (nrow nd') 106 → Ext (· = p3.block) w8 w9 →
     (∃ j' : Nat, IntKind.i64.wrap ((j : Int) + 1) = j' ∧ j' ≤ ks.length ∧ ∃ (nd : Sp.Node) (L' : Sp.Pool) (F' : NP), Sp.growAll ⟨k, f, t, u, x, 0, 0⟩ 0 L ks = Sp.growAll nd j' L' (ks.drop j') ∧ Sp.Ok L' ∧ PoolAt w9 p L' F' ∧ (∀ b, F' b → F b ∨ w.heap.size ≤ b) ∧ ¬ F' p3.block ∧ ¬ F' p4.block ∧ Ext F w w9 ∧ Box w9 p3 (nrow nd) 106 ∧ Box w9 p4 [.pointer (some (p3.add 5)), .pointer (some (p3.add 6))] 206) ∧ ((ks.length : Int) - IntKind.i64.wrap ((j : Int) + 1)).toNat < ((ks.length : Int) - (j : Int)).toNat := by
    intro w9 nd' hnd B9 E9
    rw [i64 (by omega) (by omega)]
    refine ⟨⟨j + 1, by omega, hlt, nd', _, F8, by rw [heq, hnd], hok8, hP8.ext E9 (fun b hb e => n38 (e ▸ hb)), hF8', n38, n48, Ew8.trans' E9 (fun i hi h => by subst h; omega), B9, q4.ext E9 n34.symm⟩, by omega⟩
   have hj2 : j = 0 ∨ j = 1 := by omega
   rcases hj2 with rfl | rfl
   ·refine ⟨p4, ⟨by omega, by simp, p4, rfl, rfl⟩, some (p3.add 5), q4.cell0, p3.add 5, rfl, q3.canW (by simp [nrow]), ?_⟩
    intro w9 hw9
    refine fin w9 _ rfl ?_ ?_
    ·rw [hw9, e1]; exact q3.set 5 _
    ·rw [hw9]; have := Ext.setCell (w := w8) (p3.add 5) (.int .i64 r1); rw [add_block] at this; exact this
   ·refine ⟨p4.add 1, ⟨by omega, by simp, p4, rfl, rfl⟩, some (p3.add 6), q4.cell rfl, p3.add 6, rfl, q3.canW (by simp [nrow]), ?_⟩
    intro w9 hw9
    refine fin w9 _ rfl ?_ ?_
    ·rw [hw9, e1]; exact q3.set 6 _
    ·rw [hw9]; have := Ext.setCell (w := w8) (p3.add 6) (.int .i64 r1); rw [add_block] at this; exact this
 ·have hge : j = ks.length := by have h := of_decide_eq_false h; omega
  rw [hge, List.drop_length, Sp.growAll] at heq
  obtain ⟨k0, f0, t0, u0, x0, a0, b0⟩ := nd
  refine ⟨_, _, _, _, _, _, _, d3.row, ?_⟩
  refine (c_Make p k0 f0 t0 u0 x0 a0 b0 wl hPl hok').mono ?_
  rintro _ w9 ⟨r1, r2, rfl, hr, F9, hP9, E9, hF9⟩
  have hsz : w.heap.size ≤ wl.heap.size := El.size
  refine ⟨_, _, rfl, hK _ _ _ ?_⟩
  rw [heq]
  exact ⟨hr, F9, hP9, El.trans' E9 (fun i hi h => (hF' i h).elim id (fun h => by omega)), fun b hb => (hF9 b hb).elim (hF' b) (fun h => by right; omega)⟩
theorem looks_two (t : Sp.Tree) : ∀ i n : Int, (Sp.looks i n t).1 = 0 → Sp.Tree.two t := by
 induction t using Sp.Tree.ind with
 | h k f t u x ks ih =>
  have hA : ∀ (ks : List Sp.Tree), (∀ i (hi : i < ks.length), ∀ j n : Int, (Sp.looks j n ks[i]).1 = 0 → Sp.Tree.two ks[i]) → ∀ i e n : Int, (Sp.looksAll i e n ks).1 = 0 → e = 0 ∧ twoAll ks := by
   intro ks
   induction ks with
   | nil => intro _ i e n h; exact ⟨by simpa [Sp.looksAll] using h, trivial⟩
   | cons t ts iht =>
    intro hh i e n h
    unfold Sp.looksAll at h
    split at h
    ·rename_i he
     have := iht (fun i hi => hh (i + 1) (by simpa using hi)) _ _ _ h
     exact ⟨he, hh 0 (by simp) i n this.1, this.2⟩
    ·rename_i he; exact absurd h he
  intro i n h
  unfold Sp.looks at h
  split at h
  ·cases h
  ·split at h
   ·cases h
   ·have := hA ks ih _ _ _ h
    refine two_mk.2 ⟨?_, this.2⟩
    have ho := this.1
    unfold Sp.ownErr at ho
    simp only at ho
    have hk := Sp.kids_le k
    by_cases hp : Sp.plainErr ⟨k, f, t, u, x, 0, 0⟩ = 0
    ·rw [if_pos hp] at ho
     by_cases hl : (ks.length : Int) ≠ (Sp.shapeOf k).kids
     ·rw [if_pos hl] at ho; simp at ho
     ·omega
    ·rw [if_neg hp, if_neg hp] at ho; exact absurd ho hp
theorem c_Of {S : NP} (p : Addr) (t : Sp.Tree) (s : Sl) (w : World) {L : Sp.Pool} {F : NP} (hT : TreeAt S w s t) (hP : PoolAt w p L F) (hok : Sp.Ok L) (hFS : ∀ b, F b → ¬ S b) (hSw : ∀ b, S b → b < w.heap.size) :
  Calls Try.prog 28 #[.pointer (some p), .agg (trow t s).toArray] w
   (fun e w' => ∃ r1 : Int, ∃ r2 : Int, e = .returned (.tuple #[.int .i64 r1, .int .i64 r2]) ∧ ((r1, r2) = ((Sp.of L t).1, (Sp.of L t).2.1) ∧ ∃ F', PoolAt w' p (Sp.of L t).2.2 F' ∧ Ext F w w' ∧ ∀ b, F' b → F b ∨ w.heap.size ≤ b)) := by
 obtain ⟨k, f, to, u, x, ks⟩ := t
 suffices key : ∀ K : Int → Int → WP, (∀ r1 r2 w', ((r1, r2) = ((Sp.of L (.mk k f to u x ks)).1, (Sp.of L (.mk k f to u x ks)).2.1) ∧ ∃ F', PoolAt w' p (Sp.of L (.mk k f to u x ks)).2.2 F' ∧ Ext F w w' ∧ ∀ b, F' b → F b ∨ w.heap.size ≤ b) → K r1 r2 w') → m_Z (some p) k f to u x s w K from
  w_Z _ _ _ _ _ _ _ w _ (key _ (fun _ _ _ h => h))
 intro K hK
 unfold m_Z
 intro p2 w1 h1
 have b1 := Box.of_new h1
 have E1 : Pure w w1 := Ext.new h1
 refine Br.f rfl ?_
 intro p3 w2 h2
 have E2 : Pure w w2 := E1.trans (Ext.new h2)
 have o3 := New.own E1 h2
 have c3 := Box.of_new h2
 have n23 : p2.block ≠ p3.block := New.ne h2 b1.blk
 refine ⟨c3.canW0 (by simp), ?_⟩
 intro w3 hw3
 have c3' : Box w3 p3 [.int .i64 0] 3 := by rw [hw3]; exact c3.set0
 have E23 : Ext (· = p3.block) w2 w3 := by rw [hw3]; exact Ext.setCell p3 _
 clear hw3
 have E3 : Pure w w3 := E2.own o3 E23
 have b3 := (b1.pure (Ext.new h2 : Pure w1 w2)).ext E23 n23
 refine ⟨_, _, _, _, _, s, b3.row, ?_⟩
 generalize ht : Sp.Tree.mk k f to u x ks = t at *
 have htr : (Value.agg #[.int .i64 k, .int .i64 f, .int .i64 to, .int .u64 u, .string x, s.v]) = .agg (trow t s).toArray := by rw [← ht]; rfl
 rw [htr]
 refine (c_looks p3 (fun h => by have := hSw _ h; omega) _ t s 0 0 w3 (by omega) (by omega) (hT.pure E3) c3').mono ?_
 rintro _ w4 ⟨r1, rfl, rfl, _, E34⟩
 have E4 : Pure w w4 := E3.own o3 E34
 have b4 := b3.ext E34 n23
 have same : ∀ w', Pure w w' → ∃ F', PoolAt w' p L F' ∧ Ext F w w' ∧ ∀ b, F' b → F b ∨ w.heap.size ≤ b := fun w' E => ⟨F, hP.pure E, E.pure, fun _ h => .inl h⟩
 refine ⟨_, rfl, fun h => ?_, fun h => ?_⟩
 ·have h : (Sp.looks 0 0 t).1 ≠ 0 := by simpa using h
  have : Sp.of L t = (0, (Sp.looks 0 0 t).1, L) := by rw [Sp.of, if_pos h]
  refine hK _ _ _ ?_
  rw [this]; exact ⟨rfl, same _ E4⟩
 ·have h : (Sp.looks 0 0 t).1 = 0 := by simpa using h
  have hP4 := hP.pure E4
  obtain ⟨s0, m0, hS0, hF0⟩ := id hP4
  have hl0 : s0.len = L.length := by rw [hS0.rows.len]; simp
  refine ⟨p, rfl, s0, hS0.box.cell0, _, _, _, _, _, s, b4.row, ?_⟩
  rw [htr]
  refine (c_grow p t s w4 L F (looks_two t _ _ h) (hT.pure E4) hP4 hok hFS (fun b hb => by have := hSw b hb; have := E4.size; omega)).mono ?_
  rintro _ w5 ⟨r1, r2, rfl, hr, F5, hP5, E45, hF5⟩
  have e1 : r1 = (Sp.grow L t).1 := congrArg Prod.fst hr
  have e2 : r2 = (Sp.grow L t).2.1 := congrArg Prod.snd hr
  have hs4 : w.heap.size ≤ w4.heap.size := E4.size
  have E5 : Ext F w w5 := E4.pure.trans E45
  have hF5' : ∀ b, F5 b → F b ∨ w.heap.size ≤ b := fun b hb => (hF5 b hb).elim .inl (fun h => .inr (by omega))
  refine ⟨_, _, rfl, fun h' => ?_, fun h' => ?_⟩
  ·have h' : (Sp.grow L t).2.1 ≠ 0 := by rw [← e2]; simpa using h'
   obtain ⟨hok5, M, hM⟩ := Sp.grow_facts t L hok
   rw [hl0]
   refine (c_cut p L.length w5 hP5 hok5 (by rw [hM]; simp)).mono ?_
   rintro _ w6 ⟨rfl, hP6, E56⟩
   have : Sp.of L t = (0, (Sp.grow L t).2.1, L) := by rw [Sp.of, if_neg (by simp [h]), if_pos h']
   refine ⟨rfl, hK _ _ _ ?_⟩
   rw [this]
   rw [hM, List.take_left] at hP6
   exact ⟨by rw [e2], F5, hP6, E5.trans' E56 (fun i hi h => (hF5' i h).elim id (fun h => by omega)), hF5'⟩
  ·have h' : (Sp.grow L t).2.1 = 0 := by rw [← e2]; simpa using h'
   have : Sp.of L t = ((Sp.grow L t).1, 0, (Sp.grow L t).2.2) := by rw [Sp.of, if_neg (by simp [h]), if_neg (by simp [h'])]
   refine hK _ _ _ ?_
   rw [this]
   exact ⟨by rw [e1], F5, hP5, E5, hF5'⟩
end Go.Proofs
end
section
open Go Go.SE
namespace Go.Proofs
attribute [local irreducible] Calls
end Go.Proofs
end
section
open Go Go.SE
namespace Go.Proofs
attribute [local irreducible] Calls
end Go.Proofs
end
section
namespace Go.Sp
theorem find_some {L : Pool} {n : Node} {i : Nat} (h : find L n = some i) : ∃ hi : i < L.length, L[i].node = n := by
 unfold find at h
 rw [List.findIdx?_eq_some_iff_getElem] at h
 obtain ⟨hi, h1, _⟩ := h
 exact ⟨hi, by simpa using h1⟩
theorem make_node {L : Pool} {n : Node} (h : (make L n).2.1 = 0) : inP (make L n).2.2 (make L n).1 = true ∧ nodeOf (make L n).2.2 (make L n).1 = n ∧ (check L n).2.2 = 0 := by
 unfold make at h ⊢
 simp only at h ⊢
 by_cases hc : (check L n).2.2 ≠ 0
 ·rw [if_pos hc] at h; exact absurd h hc
 ·rw [if_neg hc] at h ⊢
  have hc : (check L n).2.2 = 0 := by simpa using hc
  cases hf : find L n with
  | some i =>
   obtain ⟨hi, hn⟩ := find_some hf
   simp only
   exact ⟨inP_iff.2 ⟨by omega, by omega⟩, by rw [nodeOf_lt hi, hn], hc⟩
  | none =>
   rw [hf] at h
   simp only at h ⊢
   split at h
   ·simp at h
   ·rename_i hl
    rw [if_neg hl]
    simp only
    have hi : L.length < (L ++ [(⟨n, (check L n).1, (check L n).2.1⟩ : Ent)]).length := by simp
    refine ⟨inP_iff.2 ⟨by omega, by simp⟩, ?_, hc⟩
    rw [nodeOf_lt hi]
    simp
theorem make_app (L : Pool) (n : Node) : ∃ M, (make L n).2.2 = L ++ M := make_grows L n
theorem kidsOf_len (n : Node) : (kidsOf n).length = (shapeOf n.kind).kids.toNat := by
 unfold kidsOf
 rcases kids_le n.kind with h | h | h <;> simp [h]
inductive Good : Tree → Prop
 | mk (k f t u : Int) (x : ByteArray) (ks : List Tree) (own : ownErr ⟨k, f, t, u, x, 0, 0⟩ ks.length = 0) (kids : ∀ i (hi : i < ks.length), Good ks[i]) : Good (.mk k f t u x ks)
theorem looks_good (t : Tree) : ∀ i n : Int, (looks i n t).1 = 0 → Good t := by
 induction t using Tree.ind with
 | h k f t u x ks ih =>
  have hA : ∀ (ks : List Tree), (∀ i (hi : i < ks.length), ∀ j n : Int, (looks j n ks[i]).1 = 0 → Good ks[i]) → ∀ i e n : Int, (looksAll i e n ks).1 = 0 → e = 0 ∧ ∀ i (hi : i < ks.length), Good ks[i] := by
   intro ks
   induction ks with
   | nil => intro _ i e n h; exact ⟨by simpa [looksAll] using h, fun i hi => by simp at hi⟩
   | cons t ts iht =>
    intro hh i e n h
    unfold looksAll at h
    split at h
    ·rename_i he
     have := iht (fun i hi => hh (i + 1) (by simpa using hi)) _ _ _ h
     refine ⟨he, fun j hj => ?_⟩
     cases j with
     | zero => exact hh 0 (by simp) i n this.1
     | succ j => exact this.2 j (by simpa using hj)
    ·rename_i he; exact absurd h he
  intro i n h
  unfold looks at h
  split at h
  ·cases h
  ·split at h
   ·cases h
   ·have := hA ks ih _ _ _ h
    exact .mk _ _ _ _ _ _ this.1 this.2
theorem Good.inv {k f t u : Int} {x : ByteArray} {ks : List Tree} (h : Good (.mk k f t u x ks)) : plainErr ⟨k, f, t, u, x, 0, 0⟩ = 0 ∧ (ks.length : Int) = (shapeOf k).kids ∧ fieldsErr (shapeOf k) ⟨k, f, t, u, x, 0, 0⟩ = 0 ∧ ∀ i (hi : i < ks.length), Good ks[i] := by
 cases h with
 | mk _ _ _ _ _ _ own kids =>
  unfold ownErr at own
  simp only at own
  by_cases hp : plainErr ⟨k, f, t, u, x, 0, 0⟩ = 0
  ·rw [if_pos hp] at own
   by_cases hl : (ks.length : Int) ≠ (shapeOf k).kids
   ·rw [if_pos hl] at own; simp at own
   ·rw [if_neg hl] at own
    simp at own
    exact ⟨hp, by simpa using hl, own, kids⟩
  ·rw [if_neg hp, if_neg hp] at own; exact absurd own hp
theorem grow_tree (x : Tree) : ∀ L, Wf L → Good x → (grow L x).2.1 = 0 → inP (grow L x).2.2 (grow L x).1 = true ∧ treeOf (grow L x).2.2 (grow L x).1 = x := by
 induction x using Tree.ind with
 | h k f t u x ks ih =>
  intro L hW hG h0
  obtain ⟨_, hlen, _, hk⟩ := hG.inv
  have fin : ∀ (n : Node) (L' : Pool), Wf L' → n.kind = k → n.frm = f → n.to = t → n.num = u → n.text = x → (make L' n).2.1 = 0 → (kidsOf n).map (treeOf L') = ks → inP (make L' n).2.2 (make L' n).1 = true ∧ treeOf (make L' n).2.2 (make L' n).1 = .mk k f t u x ks := by
   intro n L' hW' e1 e2 e3 e4 e5 hm hks
   obtain ⟨hin, hnode, hc⟩ := make_node hm
   refine ⟨hin, ?_⟩
   rw [treeOf_in (make_wf hW' n) hin, hnode, e1, e2, e3, e4, e5, ← hks]
   congr 1
   refine List.map_congr_left (fun q hq => ?_)
   obtain ⟨M, hM⟩ := make_app L' n
   have hq' := (check_zero hc).2.2.2.2.1 q hq
   rw [hM]
   have hwf := make_wf hW' n
   rw [hM] at hwf
   exact treeOf_app hwf _ q rfl hq'
  rw [grow] at h0 ⊢
  match ks, ih, hlen, hk, fin, h0 with
  | [], _, hlen, _, fin, h0 =>
   rw [growAll] at h0 ⊢
   have hz : (shapeOf k).kids = 0 := by simpa using hlen.symm
   exact fin _ L hW rfl rfl rfl rfl rfl h0 (by simp [kidsOf, hz])
  | [a], ih, hlen, hk, fin, h0 =>
   have hz : (shapeOf k).kids = 1 := by simpa using hlen.symm
   rw [growAll] at h0 ⊢
   by_cases ha : (grow L a).2.1 ≠ 0
   ·rw [if_pos ha] at h0; exact absurd h0 ha
   ·rw [if_neg ha] at h0 ⊢
    have ha : (grow L a).2.1 = 0 := by simpa using ha
    obtain ⟨i1, t1⟩ := ih 0 (by simp) L hW (hk 0 (by simp)) ha
    simp only [List.getElem_cons_zero] at i1 t1
    rw [growAll] at h0 ⊢
    exact fin _ _ (grow_wf a L hW) rfl rfl rfl rfl rfl h0 (by simp [kidsOf, hz, t1])
  | [a, b], ih, hlen, hk, fin, h0 =>
   have hz : (shapeOf k).kids = 2 := by simpa using hlen.symm
   rw [growAll] at h0 ⊢
   by_cases ha : (grow L a).2.1 ≠ 0
   ·rw [if_pos ha] at h0; exact absurd h0 ha
   ·rw [if_neg ha] at h0 ⊢
    have ha : (grow L a).2.1 = 0 := by simpa using ha
    have hW1 := grow_wf a L hW
    obtain ⟨i1, t1⟩ := ih 0 (by simp) L hW (hk 0 (by simp)) ha
    simp only [List.getElem_cons_zero] at i1 t1
    rw [growAll] at h0 ⊢
    by_cases hb : (grow (grow L a).2.2 b).2.1 ≠ 0
    ·rw [if_pos hb] at h0; exact absurd h0 hb
    ·rw [if_neg hb] at h0 ⊢
     have hb : (grow (grow L a).2.2 b).2.1 = 0 := by simpa using hb
     have hW2 := grow_wf b _ hW1
     obtain ⟨i2, t2⟩ := ih 1 (by simp) (grow L a).2.2 hW1 (hk 1 (by simp)) hb
     simp only [List.getElem_cons_succ, List.getElem_cons_zero] at i2 t2
     obtain ⟨M, hM⟩ := (grow_facts b (grow L a).2.2 hW1.ok).2
     have t1' : treeOf (grow (grow L a).2.2 b).2.2 (grow L a).1 = a := by
      rw [hM] at hW2 ⊢
      exact (treeOf_app hW2 _ _ rfl i1).trans t1
     rw [growAll] at h0 ⊢
     exact fin _ _ hW2 rfl rfl rfl rfl rfl h0 (by simp [kidsOf, hz, t1', t2])
  | a :: b :: c :: ks, _, hlen, _, _, _ =>
   have := kids_le k
   simp only [List.length_cons] at hlen
   omega
theorem of_tree {L : Pool} (hW : Wf L) {x : Tree} (h : (of L x).2.1 = 0) : inP (of L x).2.2 (of L x).1 = true ∧ treeOf (of L x).2.2 (of L x).1 = x ∧ Good x := by
 unfold of at h ⊢
 by_cases h1 : (looks 0 0 x).1 ≠ 0
 ·rw [if_pos h1] at h; exact absurd h h1
 ·rw [if_neg h1] at h ⊢
  have hg := looks_good x 0 0 (by simpa using h1)
  by_cases h2 : (grow L x).2.1 ≠ 0
  ·rw [if_pos h2] at h; exact absurd h h2
  ·rw [if_neg h2] at h ⊢
   have := grow_tree x L hW hg (by simpa using h2)
   exact ⟨this.1, this.2, hg⟩
theorem treeOf_inj {L : Pool} (hW : Wf L) : ∀ (n : Nat) (s t : Int), s.toNat + t.toNat = n → inP L s = true → inP L t = true → treeOf L s = treeOf L t → s = t := by
 intro n
 induction n using Nat.strongRecOn with
 | _ n ih =>
  intro s t hn hs ht he
  rw [treeOf_in hW hs, treeOf_in hW ht] at he
  injection he with e1 e2 e3 e4 e5 e6
  obtain ⟨i, hi, rfl⟩ := inP_at hs
  obtain ⟨j, hj, rfl⟩ := inP_at ht
  have hki := (hW.node hs)
  have hkj := (hW.node ht)
  rw [nodeOf_lt hi] at e1 e2 e3 e4 e5 e6 hki
  rw [nodeOf_lt hj] at e1 e2 e3 e4 e5 e6 hkj
  generalize hni : L[i].node = ni at *
  generalize hnj : L[j].node = nj at *
  have hsame : ∀ a ∈ kidsOf ni, ∀ b ∈ kidsOf nj, treeOf L a = treeOf L b → a = b := by
   intro a ha b hb hab
   have h1 := hki.2.2.2.2.1 a ha
   have h2 := hkj.2.2.2.2.1 b hb
   have p1 := inP_iff.1 h1.1
   have p2 := inP_iff.1 h2.1
   exact ih (a.toNat + b.toNat) (by omega) a b rfl h1.1 h2.1 hab
  have hab : ni.a = nj.a ∧ ni.b = nj.b := by
   have z1 := hki.2.1; have z2 := hki.2.2.1; have z3 := hkj.2.1; have z4 := hkj.2.2.1
   unfold kidsOf at e6 hsame
   rw [← e1] at e6 hsame z3 z4
   rcases kids_le ni.kind with h | h | h <;> rw [h] at e6 hsame z1 z2 z3 z4
   ·exact ⟨by rw [z1 (by omega), z3 (by omega)], by rw [z2 (by omega), z4 (by omega)]⟩
   ·simp at e6 hsame
    exact ⟨hsame e6, by rw [z2 (by omega), z4 (by omega)]⟩
   ·simp at e6 hsame
    exact ⟨hsame.1.1 e6.1, hsame.2.2 e6.2⟩
  have hnn : L[i].node = L[j].node := by
   rw [hni, hnj]
   obtain ⟨_, _, _, _, _, _, _⟩ := ni; obtain ⟨_, _, _, _, _, _, _⟩ := nj
   simp at e1 e2 e3 e4 e5 hab
   simp [e1, e2, e3, e4, e5, hab]
  have := List.pairwise_iff_getElem.1 hW.ok.nodup
  have hij : i = j := by
   rcases Nat.lt_trichotomy i j with h | h | h
   ·exact absurd (by rw [List.getElem_map, List.getElem_map]; exact hnn) (this i j (by simpa using hi) (by simpa using hj) h)
   ·exact h
   ·exact absurd (by rw [List.getElem_map, List.getElem_map]; exact hnn.symm) (this j i (by simpa using hj) (by simpa using hi) h)
  rw [hij]
end Go.Sp
end
section
namespace Go.Sp
mutual
def cnt : Tree → Nat
 | .mk _ _ _ _ _ ks => 1 + cntAll ks
def cntAll : List Tree → Nat
 | [] => 0
 | t :: ts => cnt t + cntAll ts
end
theorem cnt_pos (t : Tree) : 1 ≤ cnt t := by cases t; simp [cnt]
theorem cntAll_len : ∀ ks : List Tree, ks.length ≤ cntAll ks
 | [] => by simp
 | t :: ts => by have := cnt_pos t; have := cntAll_len ts; simp only [cntAll, List.length_cons]; omega
theorem cntAll_get : ∀ {ks : List Tree} {i : Nat} (hi : i < ks.length), cnt ks[i] ≤ cntAll ks
 | t :: ts, 0, _ => by simp [cntAll]
 | t :: ts, i + 1, hi => by
  have := cntAll_get (ks := ts) (i := i) (by simpa using hi)
  simp only [cntAll, List.getElem_cons_succ]; omega
mutual
def parts (most : Int) : Tree → Int
 | .mk _ _ _ _ _ ks => partsAll most 1 ks
def partsAll (most n : Int) : List Tree → Int
 | [] => n
 | t :: ts => if n ≤ most then partsAll most (n + parts (most - n) t) ts else n
end
theorem parts_facts (t : Tree) : ∀ most : Int, 0 ≤ most → 1 ≤ parts most t ∧ parts most t ≤ most + 1 ∧ (parts most t ≤ most → (cnt t : Int) = parts most t) := by
 induction t using Tree.ind with
 | h k f tt u x ks ih =>
  have hA : ∀ (ks : List Tree), (∀ i (hi : i < ks.length), ∀ most : Int, 0 ≤ most → 1 ≤ parts most ks[i] ∧ parts most ks[i] ≤ most + 1 ∧ (parts most ks[i] ≤ most → (cnt ks[i] : Int) = parts most ks[i])) →
    ∀ most n : Int, 1 ≤ n → n ≤ most + 1 → n ≤ partsAll most n ks ∧ partsAll most n ks ≤ most + 1 ∧ (partsAll most n ks ≤ most → n + (cntAll ks : Int) = partsAll most n ks) := by
   intro ks
   induction ks with
   | nil => intro _ most n h1 h2; simp [partsAll, cntAll, h2]
   | cons t ts iht =>
    intro hh most n h1 h2
    unfold partsAll
    by_cases hn : n ≤ most
    ·rw [if_pos hn]
     have h0 := hh 0 (by simp) (most - n) (by omega)
     simp only [List.getElem_cons_zero] at h0
     have h3 := iht (fun i hi => hh (i + 1) (by simpa using hi)) most (n + parts (most - n) t) (by omega) (by omega)
     refine ⟨by omega, h3.2.1, fun h => ?_⟩
     have h4 := h3.2.2 h
     have h5 := h0.2.2 (by omega)
     simp only [cntAll]; omega
    ·rw [if_neg hn]; exact ⟨Int.le_refl _, h2, fun h => absurd h hn⟩
  intro most hm
  have := hA ks ih most 1 (by omega) (by omega)
  simp only [parts, cnt]
  refine ⟨this.1, this.2.1, fun h => ?_⟩
  have := this.2.2 h
  omega
mutual
def same : Tree → Tree → Bool
 | .mk k f t u x ks, .mk k' f' t' u' x' ks' => decide (k = k') && decide (f = f') && decide (t = t') && decide (u = u') && decide (x = x') && sameAll ks ks'
def sameAll : List Tree → List Tree → Bool
 | [], [] => true
 | t :: ts, t' :: ts' => same t t' && sameAll ts ts'
 | _, _ => false
end
theorem same_iff (a : Tree) : ∀ b, same a b = true ↔ a = b := by
 induction a using Tree.ind with
 | h k f t u x ks ih =>
  have hA : ∀ (ks : List Tree), (∀ i (hi : i < ks.length), ∀ b, same ks[i] b = true ↔ ks[i] = b) → ∀ ks', sameAll ks ks' = true ↔ ks = ks' := by
   intro ks
   induction ks with
   | nil => intro _ ks'; cases ks' <;> simp [sameAll]
   | cons t ts iht =>
    intro hh ks'
    cases ks' with
    | nil => simp [sameAll]
    | cons t' ts' =>
     have h0 := hh 0 (by simp) t'
     simp only [List.getElem_cons_zero] at h0
     simp only [sameAll, Bool.and_eq_true, h0, iht (fun i hi => hh (i + 1) (by simpa using hi)) ts', List.cons.injEq]
  intro b
  obtain ⟨k', f', t', u', x', ks'⟩ := b
  simp only [same, Bool.and_eq_true, decide_eq_true_eq, hA ks ih ks', Tree.mk.injEq]
  constructor
  ·rintro ⟨⟨⟨⟨⟨h1, h2⟩, h3⟩, h4⟩, h5⟩, h6⟩; exact ⟨h1, h2, h3, h4, h5, h6⟩
  ·rintro ⟨h1, h2, h3, h4, h5, h6⟩; exact ⟨⟨⟨⟨⟨h1, h2⟩, h3⟩, h4⟩, h5⟩, h6⟩
end Go.Sp
end
section
open Go Go.SE
namespace Go.Proofs
attribute [local irreducible] Calls
theorem TreeAt.hst {S : NP} {w0 w w' : World} {H H' : NP} {s : Sl} {t : Sp.Tree} (h : TreeAt S w s t) (hs : Hst w0 H w H' w') (hd : ∀ b, S b → b < w.heap.size ∧ ¬ H b) : TreeAt S w' s t :=
 h.ext hs.ext (fun b hb hh => hs.disj (G := S) hd b hb hh)
theorem c_ref05_Parts {S : NP} (t : Sp.Tree) : ∀ (s : Sl) (most : Int) (w0 : World), 0 ≤ most → most ≤ 1000000000 → TreeAt S w0 s t → (∀ b, S b → b < w0.heap.size) →
  Calls Try.prog 66 #[.agg (trow t s).toArray, .int .i64 most] w0 (fun e w' => ∃ r : Int, e = .returned (.int .i64 r) ∧ (r = Sp.parts most t ∧ Pure w0 w')) := by
 induction t using Sp.Tree.ind with
 | h k f t u x ks ih =>
 intro s most w0 hm0 hm hT hSw
 suffices key : ∀ K : Int → WP, (∀ r w', (r = Sp.parts most (.mk k f t u x ks) ∧ Pure w0 w') → K r w') → m_O k f t u x s most w0 K from
  w_O _ _ _ _ _ _ _ w0 _ (key _ (fun _ _ h => h))
 intro K hK
 have hlen : s.len = ks.length := by cases hT; assumption
 have hfit : ks.length ≤ 9223372036854775807 := by cases hT; assumption
 unfold m_O
 intro H1 w1 hs1
 refine ⟨fun n i H w' => ∃ j : Nat, i = j ∧ j ≤ ks.length ∧ 1 ≤ n ∧ n ≤ most + 1 ∧ Pure w0 w' ∧ Sp.partsAll most 1 ks = Sp.partsAll most n (ks.drop j), fun _ i _ => ((ks.length : Int) - i).toNat, ⟨0, rfl, Nat.zero_le _, Int.le_refl _, by omega, hs1.first, rfl⟩, ?_⟩
 rintro n _ Hl wl hl ⟨j, rfl, hj, hn1, hn2, El, heq⟩
 unfold m_O_l1
 refine ⟨fun hc => ?_, fun hc => ?_⟩
 ·simp only [Bool.and_eq_true, decide_eq_true_eq] at hc
  have hlt : j < ks.length := by omega
  rw [List.drop_eq_getElem_cons hlt, Sp.partsAll, if_pos hc.2] at heq
  have hT1 := hT.pure El
  cases hT1 with
  | mk _ _ _ _ _ _ _ rs len fit row kid =>
  obtain ⟨a, hat, ha, hr⟩ := row j hlt
  refine ⟨a, hat, ?_⟩
  intro H2 w2 hs2
  have hd : ∀ b, S b → ¬ H2 b := fun b hb hh => by have := hs2.old _ hh; have := hSw b hb; omega
  refine ⟨_, _, _, _, _, rs j, hs2.ext.row hr (hd _ ha), ?_⟩
  rw [i64 (n := most - n) (by omega) (by omega)]
  refine (ih j hlt (rs j) (most - n) w2 (by omega) (by omega) ((kid j hlt).ext hs2.ext hd) (fun b hb => by have := hSw b hb; have := (El.hst hs2).size; omega)).mono ?_
  rintro _ w3 ⟨r, rfl, rfl, E3⟩
  have hpf := Sp.parts_facts ks[j] (most - n) (by omega)
  refine ⟨_, rfl, E3.keptP, ?_⟩
  rw [wrap_succ hlt (by omega), i64 (n := n + Sp.parts (most - n) ks[j]) (by omega) (by omega)]
  exact ⟨⟨j + 1, rfl, hlt, by omega, by omega, (El.hst hs2).trans E3, heq⟩, lt_dec hlt⟩
 ·intro H2 w2 hs2
  refine hK _ _ ⟨?_, El.hst hs2⟩
  rw [Sp.parts, heq]
  by_cases hj2 : j = ks.length
  ·rw [hj2, List.drop_length]; rfl
  ·have hlt : j < ks.length := by omega
   rw [List.drop_eq_getElem_cons hlt, Sp.partsAll, if_neg]
   intro h
   have : decide (n ≤ most) = true := decide_eq_true h
   have h2 : decide ((j : Int) < (s.len : Int)) = true := decide_eq_true (by omega)
   rw [this, h2] at hc; cases hc
theorem sameAll_drop {xs ys : List Sp.Tree} {j : Nat} (hl : xs.length = ys.length) (hj : j < xs.length) : Sp.sameAll (xs.drop j) (ys.drop j) = (Sp.same xs[j] (ys[j]'(by omega)) && Sp.sameAll (xs.drop (j + 1)) (ys.drop (j + 1))) := by
 rw [List.drop_eq_getElem_cons hj, List.drop_eq_getElem_cons (show j < ys.length by omega), Sp.sameAll]
theorem sameAll_len : ∀ {xs ys : List Sp.Tree}, Sp.sameAll xs ys = true → xs.length = ys.length
 | [], [], _ => rfl
 | a :: xs, b :: ys, h => by simp only [Sp.sameAll, Bool.and_eq_true] at h; simp [sameAll_len h.2]
 | [], b :: ys, h => by simp [Sp.sameAll] at h
 | a :: xs, [], h => by simp [Sp.sameAll] at h
theorem c_ref05_Same {S : NP} (t : Sp.Tree) : ∀ (t' : Sp.Tree) (s s' : Sl) (w0 : World), TreeAt S w0 s t → TreeAt S w0 s' t' → (∀ b, S b → b < w0.heap.size) →
  Calls Try.prog 36 #[.agg (trow t s).toArray, .agg (trow t' s').toArray] w0 (fun e w' => ∃ r : Bool, e = .returned (.bool r) ∧ (r = Sp.same t t' ∧ Pure w0 w')) := by
 induction t using Sp.Tree.ind with
 | h k f t u x ks ih =>
 intro t' s s' w0 hT hT' hSw
 obtain ⟨k', f', tt', u', x', ks'⟩ := t'
 suffices key : ∀ K : Bool → WP, (∀ r w', (r = Sp.same (.mk k f t u x ks) (.mk k' f' tt' u' x' ks') ∧ Pure w0 w') → K r w') → m_N k f t u x s k' f' tt' u' x' s' w0 K from
  w_N _ _ _ _ _ _ _ _ _ _ _ _ w0 _ (key _ (fun _ _ h => h))
 intro K hK
 have hlen : s.len = ks.length := by cases hT; assumption
 have hlen' : s'.len = ks'.length := by cases hT'; assumption
 have hfit : ks.length ≤ 9223372036854775807 := by cases hT; assumption
 unfold m_N
 rintro y1 rfl
 refine ⟨fun h => ?_, fun h => ?_⟩
 ·intro H7 w7 hs7
  refine hK _ _ ⟨?_, hs7.first⟩
  symm
  apply Bool.eq_false_iff.2
  intro hs
  simp only [Sp.same, Bool.and_eq_true, decide_eq_true_eq] at hs
  obtain ⟨⟨⟨⟨⟨rfl, rfl⟩, rfl⟩, rfl⟩, rfl⟩, h6⟩ := hs
  have := sameAll_len h6
  simp [hlen, hlen', this] at h
 ·have hne : k = k' ∧ f = f' ∧ t = tt' ∧ u = u' ∧ x = x' ∧ ks.length = ks'.length := by
   simp only [Bool.or_eq_false_iff, bne_eq_false_iff_eq, Bool.not_eq_false', decide_eq_true_eq] at h
   obtain ⟨⟨⟨⟨⟨h1, h2⟩, h3⟩, h4⟩, h5⟩, h6⟩ := h
   exact ⟨h1, h2, h3, h4, h5, by omega⟩
  obtain ⟨rfl, rfl, rfl, rfl, rfl, hll⟩ := hne
  have hsp : Sp.same (.mk k f t u x ks) (.mk k f t u x ks') = Sp.sameAll ks ks' := by simp [Sp.same]
  rw [hsp] at hK
  intro H7 w7 hs7
  refine ⟨fun i H w' => ∃ j : Nat, i = j ∧ j ≤ ks.length ∧ Pure w0 w' ∧ Sp.sameAll ks ks' = Sp.sameAll (ks.drop j) (ks'.drop j), fun i _ => ((ks.length : Int) - i).toNat, ⟨0, rfl, Nat.zero_le _, hs7.first, rfl⟩, ?_⟩
  rintro _ Hl wl hl ⟨j, rfl, hj, El, heq⟩
  unfold m_N_l1
  refine ⟨fun hc => ?_, fun hc => ?_⟩
  ·have hlt := lt_of_dec hlen hc
   have hlt' : j < ks'.length := by omega
   rw [sameAll_drop hll hlt] at heq
   have g1 : ∃ a r, At s j 6 a ∧ S a.block ∧ (∀ w', Pure w0 w' → Row w' a (trow ks[j] r)) ∧ TreeAt S w0 r ks[j] := by
    cases hT with
    | mk _ _ _ _ _ _ _ rs len fit row kid => obtain ⟨a, h1, h2, h3⟩ := row j hlt; exact ⟨a, rs j, h1, h2, fun w' E => E.row h3 id, kid j hlt⟩
   have g2 : ∃ a r, At s' j 6 a ∧ S a.block ∧ (∀ w', Pure w0 w' → Row w' a (trow ks'[j] r)) ∧ TreeAt S w0 r ks'[j] := by
    cases hT' with
    | mk _ _ _ _ _ _ _ rs len fit row kid => obtain ⟨a, h1, h2, h3⟩ := row j hlt'; exact ⟨a, rs j, h1, h2, fun w' E => E.row h3 id, kid j hlt'⟩
   obtain ⟨a, r, hat, _, hr, hk⟩ := g1
   obtain ⟨a', r', hat', _, hr', hk'⟩ := g2
   refine ⟨fun w' => Pure w0 w', El.trans (Ext.drew wl), ?_⟩
   rintro _ rfl
   have Ed := El.trans (Ext.drew wl)
   refine ⟨a, hat, _, _, _, _, _, r, fun w' h => hr w' h, a', hat', _, _, _, _, _, r', fun w' h => hr' w' h, ?_⟩
   refine (ih j hlt ks'[j] r r' wl.drew (hk.pure Ed) (hk'.pure Ed) (fun b hb => by have := hSw b hb; have := Ed.size; omega)).mono ?_
   rintro _ w13 ⟨q, rfl, rfl, E13⟩
   refine ⟨_, rfl, Ed.trans E13, E13.keptP, fun h => ?_, fun h => ?_⟩
   ·have h : Sp.same ks[j] ks'[j] = false := by simpa using h
    exact hK _ _ ⟨by rw [heq, h]; rfl, Ed.trans E13⟩
   ·have h : Sp.same ks[j] ks'[j] = true := by simpa using h
    rw [h, Bool.true_and] at heq
    rw [wrap_succ hlt (by omega)]
    exact ⟨⟨j + 1, rfl, hlt, Ed.trans E13, heq⟩, lt_dec hlt⟩
  ·have hge := eq_of_dec hlen hj hc
   subst hge
   rw [List.drop_length, hll, List.drop_length] at heq
   exact hK _ _ ⟨heq.symm, El⟩
end Go.Proofs
end
section
open Go Go.SE
namespace Go.Proofs
attribute [local irreducible] wpL wpX opE wpE Calls
end Go.Proofs
end
section
open Go Go.SE
namespace Go.Sp
end Go.Sp
namespace Go.Proofs
attribute [local irreducible] Calls
theorem TreeAt.leaf {S : NP} {w : World} {k f t u : Int} {x : ByteArray} : TreeAt S w Sl.nil (.mk k f t u x []) :=
 .mk k f t u x [] Sl.nil (fun _ => Sl.nil) rfl (by simp) (fun i h => by simp at h) (fun i h => by simp at h)
theorem TreeAt.one {S : NP} {w : World} {k f t u : Int} {x : ByteArray} {p : Addr} {A : Sp.Tree} {sa : Sl} {T : TypeId} (hB : Box w p (trow A sa) T) (hS : S p.block) (hA : TreeAt S w sa A) : TreeAt S w ⟨some p, 1, 1⟩ (.mk k f t u x [A]) := by
 refine .mk k f t u x [A] _ (fun _ => sa) rfl (by simp) (fun i h => ?_) (fun i h => ?_)
 ·have : i = 0 := by simpa using h
  subst this
  exact ⟨p, ⟨by omega, by simp, p, rfl, rfl⟩, hS, hB.row⟩
 ·have : i = 0 := by simpa using h
  subst this
  exact hA
theorem TreeAt.pair {S : NP} {w : World} {k f t u : Int} {x : ByteArray} {p : Addr} {A B : Sp.Tree} {sa sb : Sl} {T : TypeId} (hB : Box w p (trow A sa ++ trow B sb) T) (hS : S p.block) (hA : TreeAt S w sa A) (hB2 : TreeAt S w sb B) : TreeAt S w ⟨some p, 2, 2⟩ (.mk k f t u x [A, B]) := by
 refine .mk k f t u x [A, B] _ (fun i => if i = 0 then sa else sb) rfl (by simp) (fun i h => ?_) (fun i h => ?_)
 ·have : i = 0 ∨ i = 1 := by simp at h; omega
  rcases this with rfl | rfl
  ·refine ⟨p, ⟨by omega, by simp, p, rfl, rfl⟩, hS, fun i hi => ?_⟩
   have := hB.row i (by simp [trow] at hi ⊢; omega)
   have hi' : i < 6 := by simpa [trow] using hi
   rw [this]; exact List.getElem?_append_left (by simp [trow]; omega)
  ·refine ⟨p.add (1 * 6), ⟨by omega, by simp, p, rfl, rfl⟩, by rw [add_block]; exact hS, fun i hi => ?_⟩
   have hi' : i < 6 := by simpa [trow] using hi
   have := hB.row (6 + i) (by simp [trow]; omega)
   rw [add_add, this, List.getElem?_append_right (by simp [trow])]
   simp [trow]
 ·have : i = 0 ∨ i = 1 := by simp at h; omega
  rcases this with rfl | rfl
  ·exact hA
  ·exact hB2
abbrev RetT (n0 : Nat) (w : World) (T : Sp.Tree) (e : Ending) (w' : World) : Prop := ∃ s, e = .returned (.agg (trow T s).toArray) ∧ TreeAt (n0 ≤ ·) w' s T ∧ Pure w w'
end Go.Proofs
end
section
open Go Go.SE
namespace Go.Proofs
attribute [local irreducible] Calls
theorem slT_tree : SlType Try.prog 22 52 6 72 := by
 refine ⟨Try.underlying22, ⟨Try.t52, _, by kernel_rfl, (by kernel_rfl : Try.t52.zero = some (.agg #[.int .i64 0, .int .i64 0, .int .i64 0, .int .u64 0, .string ⟨#[]⟩, .slice none 0 0])), by kernel_rfl, by kernel_rfl, rfl⟩, by omega⟩
def prow (p : Sp.Tree × Sl) : List Value := trow p.1 p.2
theorem TreeAt.of_pairs {S : NP} {w : World} {s : Sl} {e : TypeId} {ps : List (Sp.Tree × Sl)} {k f t u : Int} {x : ByteArray} (hR : Rws w e 6 s (ps.map prow)) (hS : ∀ b, s.blk b → S b) (hk : ∀ p ∈ ps, TreeAt S w p.2 p.1) (fit : ps.length ≤ 9223372036854775807) : TreeAt S w s (.mk k f t u x (ps.map Prod.fst)) := by
 refine .mk k f t u x _ s (fun i => (ps.getD i (Sp.noTree, Sl.nil)).2) (by rw [hR.len]; simp) (by simpa using fit) (fun i h => ?_) (fun i h => ?_)
 ·have h' : i < ps.length := by simpa using h
  obtain ⟨a, h1, h2, h3⟩ := hR.at (i := i) (by omega) (by simpa using h')
  refine ⟨a, h1, hS _ h3, ?_⟩
  have e1 : (ps.map Prod.fst)[i] = ps[i].1 := by simp
  have e2 : (ps.getD i (Sp.noTree, Sl.nil)).2 = ps[i].2 := by simp [List.getD_eq_getElem?_getD, h']
  rw [e1, e2]; simpa [prow] using h2
 ·have h' : i < ps.length := by simpa using h
  have e1 : (ps.map Prod.fst)[i] = ps[i].1 := by simp
  have e2 : (ps.getD i (Sp.noTree, Sl.nil)).2 = ps[i].2 := by simp [List.getD_eq_getElem?_getD, h']
  rw [e1, e2]; exact hk _ (List.getElem_mem h')
theorem trow_one (t : Sp.Tree) (s : Sl) : (trow t s).all oneCell = true := by simp [trow, oneCell, Sl.v]
theorem c_ref05_Lent {S : NP} (t : Sp.Tree) : ∀ (s : Sl) (w0 : World), Sp.cnt t ≤ 1000000 → TreeAt S w0 s t → (∀ b, S b → b < w0.heap.size) →
  Calls Try.prog 29 #[.agg (trow t s).toArray] w0 (RetT w0.heap.size w0 t) := by
 induction t using Sp.Tree.ind with
 | h k f t u x ks ih =>
 intro s w0 hcnt hT hSw
 suffices key : ∀ K : Int → Int → Int → Int → ByteArray → Sl → WP, (∀ s' w', TreeAt (w0.heap.size ≤ ·) w' s' (.mk k f t u x ks) → Pure w0 w' → K k f t u x s' w') → m_M k f t u x s w0 K by
  refine (w_M _ _ _ _ _ _ w0 (fun k' f' t' u' x' s' w' => (k' = k ∧ f' = f ∧ t' = t ∧ u' = u ∧ x' = x) ∧ TreeAt (w0.heap.size ≤ ·) w' s' (.mk k f t u x ks) ∧ Pure w0 w') (key _ (fun s' w' h1 h2 => ⟨⟨rfl, rfl, rfl, rfl, rfl⟩, h1, h2⟩))).mono ?_
  rintro _ w' ⟨_, _, _, _, _, s', rfl, ⟨rfl, rfl, rfl, rfl, rfl⟩, h1, h2⟩
  exact ⟨s', rfl, h1, h2⟩
 intro K hK
 have hlen : s.len = ks.length := by cases hT; assumption
 have hca : 1 + Sp.cntAll ks ≤ 1000000 := by simpa [Sp.cnt] using hcnt
 have hkl := Sp.cntAll_len ks
 have hnil : ∀ b, ¬ Sl.nil.blk b := fun b hb => by obtain ⟨a, h, _⟩ := hb; cases h
 unfold m_M
 intro H3 w5 hs5
 refine ⟨fun i _ _ _ _ _ yk H w' => ∃ j : Nat, i = j ∧ j ≤ ks.length ∧ Pure w0 w' ∧ ∃ (ps : List (Sp.Tree × Sl)) (S' : NP), ps.map Prod.fst = ks.take j ∧ Own H w' 52 6 yk (ps.map prow) ∧ (∀ p ∈ ps, TreeAt S' w' p.2 p.1) ∧ (∀ b, S' b → w0.heap.size ≤ b ∧ b < w'.heap.size ∧ ¬ H b ∧ ¬ yk.blk b) ∧ (∀ b, yk.blk b → w0.heap.size ≤ b),
  fun i _ _ _ _ _ _ _ => ((ks.length : Int) - i).toNat, ⟨0, rfl, Nat.zero_le _, hs5.first, [], fun _ => False, by simp, Own.nil _ _, by simp, fun b h => h.elim, fun b h => (hnil b h).elim⟩, ?_⟩
 rintro _ y1 y2 y3 y4 y5 yk Hl wl hl ⟨j, rfl, hj, El, ps, S', hps, Oy, hkids, hS', hyk⟩
 have hpl : ps.length = j := by have := congrArg List.length hps; simpa [Nat.min_eq_left hj] using this
 unfold m_M_l1
 refine ⟨fun hc => ?_, fun hc => ?_⟩
 ·have hlt := lt_of_dec hlen hc
  have g1 : ∃ a r, At s j 6 a ∧ S a.block ∧ (∀ w', Pure w0 w' → Row w' a (trow ks[j] r)) ∧ TreeAt S w0 r ks[j] := by
   cases hT with
   | mk _ _ _ _ _ _ _ rs len fit row kid => obtain ⟨a, h1, h2, h3⟩ := row j hlt; exact ⟨a, rs j, h1, h2, fun w' E => E.row h3 id, kid j hlt⟩
  obtain ⟨a, r, hat, _, hr, hk⟩ := g1
  have E6 : Pure wl wl.drew := Ext.drew wl
  have Ed := El.trans E6
  refine ⟨fun w' => Pure w0 w', Ed, ?_⟩
  rintro _ rfl
  refine ⟨a, hat, _, _, _, _, _, r, fun w' h => hr w' h, ?_⟩
  have hcj := Sp.cntAll_get (ks := ks) hlt
  refine (ih j hlt r wl.drew (by omega) (hk.pure Ed) (fun b hb => by have := hSw b hb; have := Ed.size; omega)).mono ?_
  rintro _ w7 ⟨s', rfl, hTk, E7⟩
  have E07 := Ed.trans E7
  refine ⟨_, _, _, _, _, s', rfl, E07, E7.keptP, ?_⟩
  intro p4 w8 h8
  have E8 : Pure w7 w8 := Ext.new h8
  refine ⟨E07.trans E8, ?_⟩
  have hs8 : Hst w0 Hl w8 Hl w8 := (hl.again E6.keptP).again (E7.trans E8).keptP
  have O8 := Oy.pure ((E6.trans E7).trans E8)
  obtain ⟨s1, w9, hr9, hO9, hE9, hk9, hb9⟩ := O8.append (P := Try.prog) (ty := 22) (c := 1) slT_tree hs8 (r := trow ks[j] s') (Box.of_new h8).row rfl (trow_one _ _) (by simp; omega) (by simp [maxLen]; omega)
  have E09 : Pure w0 w9 := (E07.trans E8).trans' hE9 (fun i hi hb => by have := hyk i hb; omega)
  refine ⟨s1, w9, hr9, E09, hk9, ?_⟩
  intro w10 hs10
  have hsd : wl.drew.heap.size = wl.heap.size := rfl
  have z7 := E7.size
  have z8 := E8.size
  have z9 := hE9.size
  have hSn : ∀ b, (S' b ∨ (wl.heap.size ≤ b ∧ b < w7.heap.size)) → w0.heap.size ≤ b ∧ b < w9.heap.size ∧ ¬ Hl b ∧ ¬ s1.blk b := by
   rintro b (hb | ⟨h1, h2⟩)
   ·obtain ⟨q1, q2, q3, q4⟩ := hS' b hb
    exact ⟨q1, by omega, q3, fun h => (hb9 b h).elim q4 (fun h => by omega)⟩
   ·refine ⟨by have := El.size; omega, by omega, fun h => by have := hl.lt b h; omega, fun h => (hb9 b h).elim (fun h => by have := Oy.rows.lt h; omega) (fun h => by omega)⟩
  rw [wrap_succ hlt (by omega)]
  refine ⟨⟨j + 1, rfl, hlt, E09.hst hs10, ps ++ [(ks[j], s')], fun b => S' b ∨ (wl.heap.size ≤ b ∧ b < w7.heap.size), ?_, ?_, ?_, ?_, ?_⟩, lt_dec hlt⟩
  ·rw [List.map_append, hps, List.take_succ_eq_append_getElem hlt]; rfl
  ·have : (ps ++ [(ks[j], s')]).map prow = ps.map prow ++ [trow ks[j] s'] := by simp [prow]
   rw [this]; exact hO9.hst hs10
  ·intro p hp
   have hnb : ∀ b, (S' b ∨ (wl.heap.size ≤ b ∧ b < w7.heap.size)) → b < w9.heap.size ∧ ¬ Hl b := fun b hb => ⟨(hSn b hb).2.1, (hSn b hb).2.2.1⟩
   rcases List.mem_append.1 hp with h | h
   ·have := (hkids p h).pure ((E6.trans E7).trans E8)
    have := this.ext hE9 (fun b hb hy => (hS' b hb).2.2.2 hy)
    exact (this.mono (fun b hb => .inl hb)).hst hs10 hnb
   ·simp only [List.mem_singleton] at h; subst h
    have := (hTk.lt.pure E8).ext hE9 (fun b hb hy => by have := Oy.rows.lt hy; have := hb.1; omega)
    exact (this.mono (S' := fun b => S' b ∨ (wl.heap.size ≤ b ∧ b < w7.heap.size)) (fun b hb => .inr ⟨by have := hb.1; omega, hb.2⟩)).hst hs10 hnb
  ·intro b hb
   obtain ⟨q1, q2, q3, q4⟩ := hSn b hb
   exact ⟨q1, Nat.lt_of_lt_of_le q2 hs10.ext.size, q3, q4⟩
  ·intro b hb
   exact (hb9 b hb).elim (hyk b) (fun h => by have := (E07.trans E8).size; omega)
 ·have hge := eq_of_dec hlen hj hc
  subst hge
  rw [List.take_length] at hps
  have E6 : Pure wl wl.drew := Ext.drew wl
  refine ⟨fun _ => True, trivial, ?_⟩
  rintro _ rfl
  intro p5 w12 h12
  have E12 : Pure wl w12 := E6.trans (Ext.new h12)
  refine ⟨trivial, ?_⟩
  have hs12 : Hst w0 Hl w12 Hl w12 := hl.again E12.keptP
  obtain ⟨s2, w13, hr13, hO13, hE13, hk13, hb13⟩ := (Oy.pure E12).append (P := Try.prog) (ty := 22) (c := 1) slT_tree hs12 (r := trow (.mk (-1) 0 0 0 ⟨#[]⟩ []) Sl.nil) (Box.of_new h12).row rfl (trow_one _ _) (by simp; omega) (by simp [maxLen]; omega)
  refine ⟨s2, w13, hr13, trivial, hk13, ?_⟩
  have hyl : yk.len = ks.length := by rw [Oy.len]; simp [hpl]
  obtain ⟨s3, hr3, hR3, hb3⟩ := Rws.hiA (P := Try.prog) slT_tree hO13.rows (k := .i64) (n := (ks.length : Int)) (by omega) (by simp [hpl]; omega)
  rw [hyl]
  refine ⟨s3, fun w' _ => hr3 w', ?_⟩
  intro w14 hs14
  have hR3' : Rws w13 52 6 s3 (ps.map prow) := by
   have e : ((ps.map prow) ++ [trow (.mk (-1) 0 0 0 ⟨#[]⟩ []) Sl.nil]).take (ks.length : Int).toNat = ps.map prow := by
    rw [Int.toNat_natCast]; exact List.take_left' (by simp [hpl])
   rw [e] at hR3; exact hR3
  have hv3 : ∀ b, s3.blk b → b < w13.heap.size ∧ ¬ Hl b := fun b hb => ⟨hR3'.lt hb, hO13.vis b ((hb3 b).1 hb)⟩
  have hR14 := hR3'.ext hs14.ext (hs14.disj (G := s3.blk) hv3)
  have z12 := E12.size
  have z13 := hE13.size
  have hs3 : ∀ b, s3.blk b → w0.heap.size ≤ b := fun b hb => (hb13 b ((hb3 b).1 hb)).elim (hyk b) (fun h => by have := El.size; omega)
  refine hK s3 w14 ?_ ?_
  ·have hT3 := TreeAt.of_pairs (S := fun b => w0.heap.size ≤ b) (k := k) (f := f) (t := t) (u := u) (x := x) hR14 hs3 (fun p hp => ?_) (by omega)
   ·rw [hps] at hT3; exact hT3
   ·have h1 := ((hkids p hp).pure E12).ext hE13 (fun b hb hy => (hS' b hb).2.2.2 hy)
    exact (h1.hst hs14 (fun b hb => ⟨by have := (hS' b hb).2.1; omega, (hS' b hb).2.2.1⟩)).mono (fun b hb => (hS' b hb).1)
  ·exact ((El.trans E12).trans' hE13 (fun i hi hb => by have := hyk i hb; omega)).hst hs14
end Go.Proofs
end
section
open Go Go.SE
namespace Go.Proofs
attribute [local irreducible] Calls
theorem c_term_Len (p : Addr) (w : World) {L : Sp.Pool} {F : NP} (hP : PoolAt w p L F) : Calls Try.prog 35 #[.pointer (some p)] w (fun e w' => ∃ r : Int, e = .returned (.int .i64 r) ∧ (r = L.length ∧ w' = w)) := by
 refine w_F2 _ w (fun r w' => r = L.length ∧ w' = w) ?_
 unfold m_F2
 obtain ⟨s, m, h, _⟩ := hP
 refine Br.f rfl ⟨p, rfl, s, h.box.cell0, ?_, rfl⟩
 have := h.rows.len
 rw [this]; simp
theorem c_kids (p : Addr) (t : Int) (w : World) {L : Sp.Pool} {F : NP} (hP : PoolAt w p L F) (hok : Sp.Ok L) : Calls Try.prog 91 #[.pointer (some p), .int .i64 t] w (fun e w' => ∃ s : Sl, e = .returned s.v ∧ (Lst (fun b => w.heap.size ≤ b ∧ b < w'.heap.size) w' 1 s (tmr (Sp.kidsOf (Sp.nodeOf L t))) ∧ Pure w w')) := by
 refine w_K2 _ _ w (fun s w' => Lst (fun b => w.heap.size ≤ b ∧ b < w'.heap.size) w' 1 s (tmr (Sp.kidsOf (Sp.nodeOf L t))) ∧ Pure w w') ?_
 unfold m_K2
 refine (c_Node p t w hP hok).mono ?_
 rintro _ w1 ⟨k, f, t', u, x, a, b, r, rfl, ⟨hn, _⟩, E1⟩
 refine ⟨_, _, _, _, _, _, _, _, rfl, ?_⟩
 intro p2 w2 h2
 have E2 : Pure w w2 := E1.trans (Ext.new h2)
 have o2 := New.own E1 h2
 refine bx 7 (Box.of_new h2) rfl rfl (fun w3 b2 E => ?_)
 have E3 : Pure w w3 := E2.own o2 E
 refine ⟨k, b2.cell0, ?_⟩
 refine (c_shapeOf k w3).mono ?_
 rintro _ w4 ⟨s1, s2, s3, s4, s5, ok, rfl, ⟨hs, _⟩, E4⟩
 refine ⟨_, _, _, _, _, _, rfl, ?_⟩
 have b24 := b2.pure E4
 intro p3 w5 h5
 have E5 : Pure w4 w5 := Ext.new h5
 have b25 := b24.pure E5
 have ne : p2.block ≠ p3.block := h5.ne b24.blk
 have E05 : Pure w w5 := (E3.trans E4).trans E5
 have o5 := New.own (E3.trans E4) h5
 refine bx 5 (Box.of_new h5) rfl rfl (fun w6 b3 E => ?_)
 have b26 := b25.ext E ne
 have E06 : Pure w w6 := E05.own o5 E
 refine ⟨a, b26.cell rfl, b, b26.cell rfl, ?_⟩
 intro p4 w7 h7
 have E7 : Pure w6 w7 := Ext.new h7
 have b4 := Box.of_new h7
 have hsh : Sp.shapeOf k = ⟨s1, s2, s3, s4, s5⟩ := hs.symm
 have hk5 : s5 = 0 ∨ s5 = 1 ∨ s5 = 2 := by have := Sp.kids_le k; rw [hsh] at this; exact this
 refine ⟨s5, (b3.pure E7).cell rfl, _, run_cut2 p4 s5 w7 hk5, ?_, E06.trans E7⟩
 have hks : Sp.kidsOf (Sp.nodeOf L t) = [a, b].take s5.toNat := by rw [← hn]; simp [Sp.kidsOf, hsh]
 rw [hks]
 have z := h7.at_size
 have z6 := E06.size
 have zl := b4.lt
 refine ⟨by rcases hk5 with rfl | rfl | rfl <;> rfl, fun i hi => ?_⟩
 rw [tmr_len] at hi
 have hi2 : i < s5.toNat := by simp at hi; omega
 refine ⟨p4.add (i * 1), ⟨by omega, by show (i : Int) < (s5.toNat : Int); omega, p4, rfl, rfl⟩, by rw [add_block]; omega, ?_⟩
 intro j hj
 have hj1 : j < 1 := by simp only [tmr, List.getElem_map, List.length_cons, List.length_nil] at hj; omega
 have hj0 : j = 0 := by omega
 subst hj0
 rw [add_add]
 have h01 : i = 0 ∨ i = 1 := by omega
 rcases h01 with rfl | rfl
 ·rw [b4.cell (i := 0 * 1 + 0) rfl]; simp [tmr]
 ·rw [b4.cell (i := 1 * 1 + 0) rfl]; simp [tmr]
theorem c_Tree (p : Addr) {L : Sp.Pool} (hW : Sp.Wf L) : ∀ (n : Nat) (t : Int) (w0 : World) (F : NP), t.toNat = n → PoolAt w0 p L F →
  Calls Try.prog 37 #[.pointer (some p), .int .i64 t] w0 (RetT w0.heap.size w0 (Sp.treeOf L t)) := by
 intro n
 induction n using Nat.strongRecOn with
 | _ n ih =>
 intro t w0 F hn hP
 suffices key : ∀ K : Int → Int → Int → Int → ByteArray → Sl → WP, (∀ k f t' u x s' w' ks, Sp.treeOf L t = .mk k f t' u x ks → TreeAt (w0.heap.size ≤ ·) w' s' (.mk k f t' u x ks) → Pure w0 w' → K k f t' u x s' w') → m_Q (some p) t w0 K by
  refine (w_Q _ _ w0 (fun k f t' u x s' w' => ∃ ks, Sp.treeOf L t = .mk k f t' u x ks ∧ TreeAt (w0.heap.size ≤ ·) w' s' (.mk k f t' u x ks) ∧ Pure w0 w') (key _ (fun k f t' u x s' w' ks h1 h2 h3 => ⟨ks, h1, h2, h3⟩))).mono ?_
  rintro _ w' ⟨k, f, t', u, x, s', rfl, ks, h1, h2, h3⟩
  rw [h1]
  exact ⟨s', rfl, h2, h3⟩
 intro K hK
 have hok := hW.ok
 have hnil : ∀ b, ¬ Sl.nil.blk b := fun b hb => by obtain ⟨a, h, _⟩ := hb; cases h
 unfold m_Q
 intro p2 w1 h1
 have E1 : Pure w0 w1 := Ext.new h1
 have b1 := Box.of_new h1
 have z1 := h1.at_size
 have l1 := b1.lt
 refine (c_Node p t w1 (hP.pure E1) hok).mono ?_
 rintro _ w2 ⟨k, f, t', u, x, a, b, r, rfl, ⟨hnd, hr⟩, E2⟩
 refine ⟨_, _, _, _, _, _, _, _, rfl, ?_⟩
 intro p3 w3 h3
 have b2 := b1.pure E2
 have n23 : p2.block ≠ p3.block := h3.ne b2.blk
 have E3 : Pure w0 w3 := (E1.trans E2).trans (Ext.new h3)
 have o3 := New.own (E1.trans E2) h3
 have b23 := b2.pure (Ext.new h3 : Pure w2 w3)
 refine bx 7 (Box.of_new h3) rfl rfl (fun w4 b3 X4 => ?_)
 have b24 := b23.ext X4 n23
 have E4 : Pure w0 w4 := E3.own o3 X4
 refine ⟨fun h => ?_, fun h => ?_⟩
 ·have hin : Sp.inP L t = false := by rw [← hr]; simpa using h
  refine bx 6 b24 rfl rfl (fun w5 b5 X5 => ⟨_, _, _, _, _, Sl.nil, b5.row, ?_⟩)
  exact hK _ _ _ _ _ _ _ [] (by rw [Sp.treeOf_none hin]; rfl) TreeAt.leaf (E4.own (by omega) X5)
 ·have hin : Sp.inP L t = true := by rw [← hr]; simpa using h
  have htr := Sp.treeOf_in hW hin
  have hnode := hW.node hin
  obtain ⟨_, _, _, _, hkid, _, _⟩ := hnode
  have hpos := Sp.inP_iff.1 hin
  refine ⟨k, b3.cell0, f, b3.cell rfl, t', b3.cell rfl, u, b3.cell rfl, x, b3.cell rfl, ?_⟩
  intro p4 w6 h6
  have n24 : p2.block ≠ p4.block := h6.ne b24.blk
  have E6 : Pure w4 w6 := Ext.new h6
  have o6 := New.own E4 h6
  have b26 := b24.pure E6
  refine bx 6 (Box.of_new h6) rfl rfl (fun w7 b4 X7 => ?_)
  have b27 := b26.ext X7 n24
  have E7 : Pure w0 w7 := (E4.trans E6).own o6 X7
  refine (c_kids p t w7 (hP.pure E7) hok).mono ?_
  rintro _ w8 ⟨r2, rfl, hL, E8⟩
  refine ⟨r2, rfl, ?_⟩
  generalize hks : Sp.kidsOf (Sp.nodeOf L t) = ks at *
  have hkl : ks.length ≤ 2 := by rw [← hks, Sp.kidsOf_len]; have := Sp.kids_le (Sp.nodeOf L t).kind; omega
  have hrl : r2.len = ks.length := by rw [hL.len, tmr_len]
  have q7 := b4.lt
  have q8 := E8.size
  refine ⟨fun i w => ∃ (j : Nat) (xs : Sl) (ps : List (Sp.Tree × Sl)), i = j ∧ j ≤ ks.length ∧ Pure w0 w ∧ w8.heap.size ≤ w.heap.size ∧ Lst (fun b => w7.heap.size ≤ b ∧ b < w8.heap.size) w 1 r2 (tmr ks) ∧ Box w p2 [.int .i64 0, .int .i64 0, .int .i64 0, .int .u64 0, .string ⟨#[]⟩, Sl.nil.v] 52 ∧ Box w p4 [.int .i64 k, .int .i64 f, .int .i64 t', .int .u64 u, .string x, xs.v] 52 ∧
   Rws w 52 6 xs (ps.map prow) ∧ (∀ b, xs.blk b → w8.heap.size ≤ b) ∧ (∀ q ∈ ps, TreeAt (fun b => w8.heap.size ≤ b ∧ ¬ xs.blk b) w q.2 q.1) ∧ ps.map Prod.fst = (ks.take j).map (Sp.treeOf L), fun i _ => ((ks.length : Int) - i).toNat, ⟨0, Sl.nil, [], rfl, Nat.zero_le _, E7.trans E8, Nat.le_refl _, hL, b27.pure E8, b4.pure E8, Rws.nil _ _ _, fun b hb => (hnil b hb).elim, fun q hq => by simp at hq, by simp⟩, ?_⟩
  rintro _ w ⟨j, xs, ps, rfl, hj, E, zw, hLw, b2w, b4w, hxs, hxo, hps, hpf⟩
  have hpl : ps.length = j := by have := congrArg List.length hpf; simp at this; omega
  unfold m_Q_l1
  refine ⟨fun h => ?_, fun h => ?_⟩
  ·have hlt := lt_of_dec hrl h
   obtain ⟨ad, hat, hSa, hc⟩ := tm_nth hLw hlt
   refine ⟨ad, hat, ks[j], hc, fun w => Box w p4 [.int .i64 k, .int .i64 f, .int .i64 t', .int .u64 u, .string x, xs.v] 52, b4w.pure (Ext.drew w : Pure _ _), ?_⟩
   rintro _ rfl
   refine ⟨xs, fun _ h => h.cell rfl, ?_⟩
   have Ed : Pure w w.drew := Ext.drew w
   have hkj := hkid ks[j] (List.getElem_mem hlt)
   have hkp := Sp.inP_iff.1 hkj.1
   refine (ih ks[j].toNat (by omega) ks[j] w.drew F rfl (hP.pure (E.trans Ed))).mono ?_
   rintro _ w10 ⟨s', rfl, hTb, E10⟩
   generalize hTt : Sp.treeOf L ks[j] = tb at *
   obtain ⟨k2, f2, t2, u2, x2, ks2⟩ := tb
   have E10' : Pure w w10 := Ed.trans E10
   refine ⟨_, _, _, _, _, s', rfl, b4w.pure E10', ?_⟩
   intro p5 w11 h11
   have E11 : Pure w w11 := E10'.trans (Ext.new h11)
   refine ⟨b4w.pure E11, ?_⟩
   have zd : w.drew.heap.size = w.heap.size := rfl
   have z10 := E10.size
   have z11 := (Ext.new h11 : Pure w10 w11).size
   have np4 : ¬ xs.blk p4.block := fun hb => by have := hxo _ hb; omega
   have np2 : ¬ xs.blk p2.block := fun hb => by have := hxo _ hb; have := b27.lt; omega
   obtain ⟨s1, w12, hr12, hR12, X12, hb12⟩ := (hxs.pure E11).append (P := Try.prog) (ty := 22) (c := 1) slT_tree (r := trow (.mk k2 f2 t2 u2 x2 ks2) s') (Box.of_new h11).row rfl (trow_one _ _) (by simp; omega) (by simp [maxLen]; omega)
   have b412 := (b4w.pure E11).ext X12 np4
   refine ⟨s1, w12, hr12, b412, b412.canW (by simp), ?_⟩
   rintro _ rfl
   have X13 := Ext.setCell (w := w12) (p4.add 5) s1.v
   rw [add_block] at X13
   have z12 := X12.size
   have z13 := X13.size
   rw [wrap_succ hlt (by omega)]
   have hs1 : ∀ b, s1.blk b → xs.blk b ∨ w.heap.size ≤ b := fun b hb => (hb12 b hb).imp_right (fun h => by omega)
   have hs1o : ∀ b, s1.blk b → w8.heap.size ≤ b := fun b hb => (hs1 b hb).elim (hxo b) (fun h => by omega)
   have np4' : ¬ s1.blk p4.block := fun hb => by have := hs1o _ hb; omega
   have q12 := b412.lt
   refine ⟨⟨j + 1, s1, ps ++ [(.mk k2 f2 t2 u2 x2 ks2, s')], rfl, hlt, ?_, by omega, ?_, ?_, b412.set 5 s1.v, ?_, hs1o, ?_, ?_⟩, lt_dec hlt⟩
   ·exact ((E.trans E11).trans' X12 (fun i hi hs => by have := hxo i hs; have := E7.size; omega)).trans' X13 (fun i hi e => by omega)
   ·exact ((hLw.pure E11).ext X12 (fun b hb hs => by have := hxo b hs; omega)).ext X13 (fun b hb e => by omega)
   ·exact ((b2w.pure E11).ext X12 np2).ext X13 n24
   ·have := hR12.ext X13 (fun b hb e => np4' (e ▸ hb))
    simpa [prow] using this
   ·intro q hq
    rcases List.mem_append.1 hq with h | h
    ·have h' := ((hps q h).lt.pure E11).ext X12 (fun b hb hs => hb.1.2 hs)
     refine (h'.ext X13 (fun b hb e => by have := hb.1.1; omega)).mono (fun b hb => ⟨hb.1.1, fun hs => (hs1 b hs).elim hb.1.2 (fun h => by have := hb.2; omega)⟩)
    ·simp only [List.mem_singleton] at h; subst h
     have h' := ((hTb.lt.pure (Ext.new h11 : Pure w10 w11)).ext X12 (fun b hb hs => by have := hxs.lt hs; have := hb.1; omega))
     refine (h'.ext X13 (fun b hb e => by have := hb.1; omega)).mono (fun b hb => ⟨by have := hb.1; omega, fun hs => (hb12 b hs).elim (fun h => by have := hxs.lt h; have := hb.1; omega) (fun h => by have := hb.2; omega)⟩)
   ·rw [List.map_append, hpf, List.take_succ_eq_append_getElem hlt, List.map_append]
    simp [hTt]
  ·have hge := eq_of_dec hrl hj h
   subst hge
   rw [List.take_length] at hpf
   refine ⟨k, f, t', u, x, xs, b4w.row, bx 6 b2w rfl rfl (fun w14 b14 X14 => ⟨k, f, t', u, x, xs, b14.row, ?_⟩)⟩
   have np2 : ¬ xs.blk p2.block := fun hb => by have := hxo _ hb; have := b27.lt; omega
   have hT := TreeAt.of_pairs (S := fun b => w0.heap.size ≤ b) (k := k) (f := f) (t := t') (u := u) (x := x) (hxs.ext X14 (fun b hb e => np2 (e ▸ hb))) (fun b hb => by have := hxo b hb; have := E7.size; omega) (fun q hq => ?_) (by omega)
   ·rw [hpf] at hT
    rw [← hnd] at htr
    exact hK _ _ _ _ _ _ _ _ htr hT (E.own (by omega) X14)
   ·exact ((hps q hq).ext X14 (fun b hb e => by have := hb.1; have := b27.lt; omega)).mono (fun b hb => by have := hb.1; have := E7.size; omega)
end Go.Proofs
end
section
namespace Go.Proofs
theorem toNat_ofNat {n : Nat} (h : n < 256) : (UInt8.ofNat n).toNat = n := by simp [UInt8.toNat_ofNat]; omega
theorem pow9 {i m : Nat} (hi : i ≤ 9) (h : m * 128 ^ i < 18446744073709551616) : i = 9 → m < 2 := by
 rintro rfl; omega
theorem rdNum_put : ∀ (m i acc : Nat) (c : List UInt8), i ≤ 9 → m * 128 ^ i < 18446744073709551616 → (0 < i → 0 < m) → rdNum i acc (varint m ++ c) = .ok (acc + m * 128 ^ i, i + (varint m).length) := by
 intro m
 induction m using Nat.strongRecOn with
 | ind m ih =>
  intro i acc c hi hm h0
  have h9 := pow9 hi hm
  by_cases h : m < 128
  ·rw [varint_lt h, List.singleton_append, rdNum_cons, toNat_ofNat (by omega), if_neg (by omega), if_pos h, if_neg (by omega), List.length_singleton]
  ·rw [varint_ge (by omega), List.cons_append, rdNum_cons, toNat_ofNat (by omega), if_neg (by omega), if_neg (by omega)]
   have e : m / 128 * 128 ^ (i + 1) = m / 128 * 128 * 128 ^ i := by rw [Nat.pow_succ, Nat.mul_assoc, Nat.mul_comm 128]
   have le : m / 128 * 128 * 128 ^ i ≤ m * 128 ^ i := Nat.mul_le_mul_right _ (by omega)
   rw [ih (m / 128) (by omega) (i + 1) _ c (by omega) (by omega) (by omega), e, List.length_cons]
   have e2 : (m % 128 + 128) % 128 = m % 128 := by omega
   have e3 : m * 128 ^ i = m % 128 * 128 ^ i + m / 128 * 128 * 128 ^ i := by rw [← Nat.add_mul]; congr 1; omega
   rw [e2, e3]
   congr 2
   ·omega
   ·omega
theorem rdNum_varint {n : Nat} (h : n < 18446744073709551616) (c : List UInt8) : rdNum 0 0 (varint n ++ c) = .ok (n, (varint n).length) := by
 rw [rdNum_put n 0 0 c (by omega) (by simpa using h) (by omega)]; simp
theorem pow_fit {i y m : Nat} (hi : i ≤ 8) (hy : y ≤ 127) (hb : m * 128 ^ (i + 1) < 18446744073709551616) : (y + 128 * m) * 128 ^ i < 18446744073709551616 := by
 rw [Nat.pow_succ] at hb
 obtain ⟨q, hq⟩ : ∃ q, 18446744073709551616 = q * (128 ^ i * 128) := by
  refine ⟨2 ^ (64 - 7 * (i + 1)), ?_⟩
  rw [show 128 ^ i * 128 = 2 ^ (7 * (i + 1)) by rw [Nat.pow_mul]; rfl, ← Nat.pow_add, show 64 - 7 * (i + 1) + 7 * (i + 1) = 64 by omega]
 have hp : 0 < 128 ^ i := Nat.pow_pos (by omega)
 generalize 128 ^ i = P at *
 rw [hq] at hb ⊢
 have hm : m < q := Nat.lt_of_mul_lt_mul_right hb
 have h1 : (y + 128 * m) * P < 128 * (m + 1) * P := Nat.mul_lt_mul_of_pos_right (by omega) hp
 have h2 : 128 * (m + 1) * P ≤ 128 * q * P := Nat.mul_le_mul_right _ (Nat.mul_le_mul_left _ hm)
 have h3 : q * (P * 128) = 128 * q * P := by rw [Nat.mul_comm P, ← Nat.mul_assoc, Nat.mul_comm q]
 omega
theorem rdNum_get : ∀ (l : List UInt8) (i acc n k : Nat), i ≤ 9 → rdNum i acc l = .ok (n, k) → ∃ m c, l = varint m ++ c ∧ n = acc + m * 128 ^ i ∧ k = i + (varint m).length ∧ (0 < i → 0 < m) ∧ m * 128 ^ i < 18446744073709551616 := by
 intro l
 induction l with
 | nil => intro i acc n k _ h; simp [rdNum] at h
 | cons x l ih =>
  intro i acc n k hi h
  have hx := x.toNat_lt
  have hx8 : UInt8.ofNat x.toNat = x := by simp
  rw [rdNum_cons] at h
  split at h
  ·cases h
  ·rename_i h9
   split at h
   ·rename_i h128
    split at h
    ·cases h
    ·rename_i hz
     cases h
     refine ⟨x.toNat, l, by rw [varint_lt h128, hx8]; rfl, rfl, by rw [varint_lt h128]; rfl, by omega, ?_⟩
     have : i = 0 ∨ i = 1 ∨ i = 2 ∨ i = 3 ∨ i = 4 ∨ i = 5 ∨ i = 6 ∨ i = 7 ∨ i = 8 ∨ i = 9 := by omega
     rcases this with rfl | rfl | rfl | rfl | rfl | rfl | rfl | rfl | rfl | rfl <;> omega
   ·rename_i h128
    have hi8 : i ≤ 8 := by omega
    obtain ⟨m, c, rfl, rfl, rfl, hp, hb⟩ := ih _ _ _ _ (by omega) h
    have hp := hp (by omega)
    have hxm : 0 < x.toNat % 128 + 128 * m := by omega
    have e : x.toNat % 128 + 128 * m = x.toNat % 128 + 128 * m := rfl
    refine ⟨x.toNat % 128 + 128 * m, c, ?_, ?_, ?_, fun _ => hxm, ?_⟩
    ·rw [varint_ge (n := x.toNat % 128 + 128 * m) (by omega), List.cons_append]
     have e1 : (x.toNat % 128 + 128 * m) % 128 + 128 = x.toNat := by omega
     have e2 : (x.toNat % 128 + 128 * m) / 128 = m := by omega
     rw [e1, e2, hx8]
    ·rw [Nat.add_mul, Nat.pow_succ]
     have : m * (128 ^ i * 128) = 128 * m * 128 ^ i := by rw [Nat.mul_comm (128 ^ i), ← Nat.mul_assoc, Nat.mul_comm m]
     omega
    ·rw [varint_ge (n := x.toNat % 128 + 128 * m) (by omega), List.length_cons]
     have e2 : (x.toNat % 128 + 128 * m) / 128 = m := by omega
     rw [e2]; omega
    ·exact pow_fit hi8 (by omega) hb
theorem rdNum_inv {l : List UInt8} {n k : Nat} (h : rdNum 0 0 l = .ok (n, k)) : ∃ c, l = varint n ++ c ∧ k = (varint n).length ∧ n < 18446744073709551616 := by
 obtain ⟨m, c, h1, h2, h3, _, h5⟩ := rdNum_get l 0 0 n k (by omega) h
 simp at h2 h3 h5
 subst h2; exact ⟨c, h1, h3, h5⟩
end Go.Proofs
end
section
namespace Go.Sp
def Nums (L : Pool) : Prop := ∀ e ∈ L, isNum e.node.num
theorem Nums.nil : Nums [] := fun _ h => (by cases h)
theorem Nums.make {L : Pool} (h : Nums L) {n : Node} (hn : isNum n.num) : Nums (make L n).2.2 := by
 rcases make_pool L n with e | ⟨_, e⟩
 ·rw [e]; exact h
 ·rw [e]; intro x hx
  rcases List.mem_append.1 hx with hx | hx
  ·exact h x hx
  ·rw [List.mem_singleton] at hx; subst hx; exact hn
theorem Nums.grow (t : Tree) : ∀ L, Nums L → NumT t → Nums (grow L t).2.2 := by
 induction t using Tree.ind with
 | h k f t u x ks ih =>
  have : ∀ (ks : List Tree), (∀ i (hi : i < ks.length), ∀ L, Nums L → NumT ks[i] → Nums (Sp.grow L ks[i]).2.2) → (∀ i (hi : i < ks.length), NumT ks[i]) → ∀ (n : Node) i L, isNum n.num → Nums L → Nums (growAll n i L ks).2.2 := by
   intro ks
   induction ks with
   | nil => intro _ _ n i L hn h; unfold growAll; exact h.make hn
   | cons t ts iht =>
    intro hh hk n i L hn h
    have h0 := hh 0 (by simp) L h (hk 0 (by simp))
    simp only [List.getElem_cons_zero] at h0
    unfold growAll
    split
    ·exact h0
    ·exact iht (fun i hi => hh (i + 1) (by simpa using hi)) (fun i hi => hk (i + 1) (by simpa using hi)) _ _ _ (by split <;> exact hn) h0
  intro L h hT
  cases hT with
  | mk _ _ _ _ _ _ own kids =>
   unfold Sp.grow
   exact this ks ih kids _ _ L own h
theorem Nums.of {L : Pool} (h : Nums L) {t : Tree} (hT : NumT t) : Nums (of L t).2.2 := by
 unfold Sp.of
 split
 ·exact h
 ·split
  ·exact h
  ·exact Nums.grow t L h hT
theorem Nums.node {L : Pool} (h : Nums L) (t : Int) : isNum (nodeOf L t).num := by
 cases ht : inP L t with
 | true => obtain ⟨e, he, hm, _⟩ := get_some ht; simp only [nodeOf, he, Option.map_some, Option.getD_some]; exact h e hm
 | false => simp only [nodeOf, get_none ht, Option.map_none, Option.getD_none]; exact ⟨by decide, by decide⟩
theorem node_fit {L : Pool} (hW : Wf L) {t : Int} (ht : inP L t = true) : 1 ≤ (nodeOf L t).kind ∧ (nodeOf L t).kind ≤ 9 ∧ 0 ≤ (nodeOf L t).frm ∧ (nodeOf L t).frm < 16 ∧ 0 ≤ (nodeOf L t).to ∧ (nodeOf L t).to < 16 ∧ (nodeOf L t).text.size ≤ 64 := by
 obtain ⟨h1, _, _, h4, _⟩ := hW.node ht
 generalize nodeOf L t = n at *
 have hp : isKind n.kind = true ∧ ((shapeOf n.kind).frm = false → n.frm = 0) ∧ ((shapeOf n.kind).to = false → n.to = 0) := by
  unfold plainErr at h1
  simp only at h1
  split at h1
  ·cases h1
  ·rename_i h; simp at h; exact ⟨h.1.1.1.1, h.1.1.1.2, h.1.1.2⟩
 have hk := hp.1
 simp only [isKind, Bool.and_eq_true, decide_eq_true_eq] at hk
 have hf : ((shapeOf n.kind).frm = true → isName n.frm = true) ∧ ((shapeOf n.kind).to = true → isName n.to = true) ∧ n.text.size ≤ 64 := by
  unfold fieldsErr at h4
  split at h4
  ·cases h4
  ·rename_i h
   split at h4
   ·cases h4
   ·simp at h; exact ⟨fun hh => h.1 hh, fun hh => (h.2 hh).1, by omega⟩
 refine ⟨hk.1, hk.2, ?_⟩
 have n1 : 0 ≤ n.frm ∧ n.frm < 16 := by
  cases hs : (shapeOf n.kind).frm with
  | true => have := hf.1 hs; simpa [isName] using this
  | false => rw [hp.2.1 hs]; decide
 have n2 : 0 ≤ n.to ∧ n.to < 16 := by
  cases hs : (shapeOf n.kind).to with
  | true => have := hf.2.1 hs; simpa [isName] using this
  | false => rw [hp.2.2 hs]; decide
 exact ⟨n1.1, n1.2, n2.1, n2.2, hf.2.2⟩
end Go.Sp
namespace Go.Proofs
theorem flds_len (k : Int) : (flds k).length ≤ 3 := by unfold flds; repeat' split
                                                       all_goals decide
theorem fld_len (n : Sp.Node) (na nb : Nat) (f : Fld) (h1 : n.frm < 16) (h2 : n.to < 16) (h3 : Sp.isNum n.num) (h4 : n.text.size ≤ 64) (ha : na < 65537) (hb : nb < 65537) : (f.bytes n na nb).length ≤ 74 := by
 have h3 := h3.2
 cases f <;> simp only [Fld.bytes, textBytes, List.length_append]
 ·have := varint_le10 (n := n.frm.toNat) (by omega); omega
 ·have := varint_le10 (n := n.to.toNat) (by omega); omega
 ·have := varint_le10 (n := n.num.toNat) (by omega); omega
 ·have := varint_le10 (n := n.text.size) (by omega)
  have : n.text.data.toList.length = n.text.size := Array.length_toList
  omega
 ·have := varint_le10 (n := na) (by omega); omega
 ·have := varint_le10 (n := nb) (by omega); omega
theorem flat_lenN {α β : Type} (f : α → List β) (c : Nat) : ∀ l : List α, (∀ x ∈ l, (f x).length ≤ c) → (l.flatMap f).length ≤ c * l.length := by
 intro l
 induction l with
 | nil => intro _; simp
 | cons a l ih =>
  intro h
  have h1 := h a (by simp)
  have h2 := ih (fun x hx => h x (List.mem_cons_of_mem _ hx))
  rw [List.flatMap_cons, List.length_append, List.length_cons, Nat.mul_succ]; omega
theorem posOf_le (l : List Int) (t : Int) : posOf l t ≤ l.length := List.idxOf_le_length
theorem nodeText_len {L : Sp.Pool} (hW : Sp.Wf L) (hN : Sp.Nums L) {seen : List Int} {t : Int} (ht : Sp.inP L t = true) (hs : seen.length ≤ 65536) : (nodeText L seen t).length ≤ 300 := by
 obtain ⟨_, _, _, h1, _, h2, h4⟩ := Sp.node_fit hW ht
 have := flat_lenN (Fld.bytes (Sp.nodeOf L t) (posOf seen (Sp.nodeOf L t).a) (posOf seen (Sp.nodeOf L t).b)) 74 (flds (Sp.nodeOf L t).kind) (fun f _ => fld_len _ _ _ f h1 h2 (hN.node t) h4 (by have := posOf_le seen (Sp.nodeOf L t).a; omega) (by have := posOf_le seen (Sp.nodeOf L t).b; omega))
 have h3 := flds_len (Sp.nodeOf L t).kind
 have : 74 * (flds (Sp.nodeOf L t).kind).length ≤ 74 * 3 := Nat.mul_le_mul_left _ h3
 unfold nodeText
 rw [List.length_cons]; omega
theorem textFrom_len {L : Sp.Pool} (hW : Sp.Wf L) (hN : Sp.Nums L) : ∀ (l seen : List Int), (∀ t ∈ l, Sp.inP L t = true) → seen.length + l.length ≤ 65536 → (textFrom L seen l).length ≤ 300 * l.length := by
 intro l
 induction l with
 | nil => intro seen _ _; simp [textFrom]
 | cons t l ih =>
  intro seen h hl
  rw [List.length_cons] at hl
  have h1 := nodeText_len hW hN (seen := seen) (h t (by simp)) (by omega)
  have h2 := ih (seen ++ [t]) (fun x hx => h x (List.mem_cons_of_mem _ hx)) (by rw [List.length_append, List.length_singleton]; omega)
  rw [textFrom, List.length_append, List.length_cons, Nat.mul_succ]; omega
end Go.Proofs
end
section
namespace Go.Proofs
theorem node_def {L : Sp.Pool} (hW : Sp.Wf L) {t : Int} (ht : Sp.inP L t = true) :
  (Fld.from_ ∈ flds (Sp.nodeOf L t).kind ∨ (Sp.nodeOf L t).frm = 0) ∧ (Fld.to_ ∈ flds (Sp.nodeOf L t).kind ∨ (Sp.nodeOf L t).to = 0) ∧ (Fld.num ∈ flds (Sp.nodeOf L t).kind ∨ (Sp.nodeOf L t).num = 0) ∧
  (Fld.text ∈ flds (Sp.nodeOf L t).kind ∨ (Sp.nodeOf L t).text = ⟨#[]⟩) ∧ (Fld.fst ∈ flds (Sp.nodeOf L t).kind ∨ (Sp.nodeOf L t).a = 0) ∧ (Fld.snd ∈ flds (Sp.nodeOf L t).kind ∨ (Sp.nodeOf L t).b = 0) := by
 obtain ⟨h1, h2, h3, _⟩ := hW.node ht
 obtain ⟨k1, k9, _⟩ := Sp.node_fit hW ht
 generalize Sp.nodeOf L t = n at *
 obtain ⟨k, f, t, u, x, a, b⟩ := n
 simp only at *
 unfold Sp.plainErr at h1
 have : k = 1 ∨ k = 2 ∨ k = 3 ∨ k = 4 ∨ k = 5 ∨ k = 6 ∨ k = 7 ∨ k = 8 ∨ k = 9 := by omega
 rcases this with rfl | rfl | rfl | rfl | rfl | rfl | rfl | rfl | rfl <;> simp [flds, Sp.shapeOf, Sp.isKind] at * <;> simp_all
def Fld.same (n m : Sp.Node) (na nb ma mb : Nat) : Fld → Prop
 | .from_ => n.frm.toNat = m.frm.toNat | .to_ => n.to.toNat = m.to.toNat | .num => n.num.toNat = m.num.toNat | .text => n.text = m.text | .fst => na = ma | .snd => nb = mb
theorem fst_kid {n : Sp.Node} (h : Fld.fst ∈ flds n.kind) : n.a ∈ Sp.kidsOf n := by
 unfold flds at h
 unfold Sp.kidsOf Sp.shapeOf
 repeat' split at h
 all_goals first | (exfalso; revert h; decide) | skip
 all_goals (rename_i h1; rw [h1]; simp)
theorem snd_kid {n : Sp.Node} (h : Fld.snd ∈ flds n.kind) : n.b ∈ Sp.kidsOf n := by
 unfold flds at h
 unfold Sp.kidsOf Sp.shapeOf
 repeat' split at h
 all_goals first | (exfalso; revert h; decide) | skip
 all_goals (rename_i h1; rw [h1]; simp)
theorem nodeOf_inj {L : Sp.Pool} (hW : Sp.Wf L) {s t : Int} (hs : Sp.inP L s = true) (ht : Sp.inP L t = true) (h : Sp.nodeOf L s = Sp.nodeOf L t) : s = t := by
 obtain ⟨i, hi, rfl⟩ := Sp.inP_at hs
 obtain ⟨j, hj, rfl⟩ := Sp.inP_at ht
 rw [Sp.nodeOf_lt hi, Sp.nodeOf_lt hj] at h
 have := hW.ok.nodup
 have e : i = j := by
  refine (List.getElem_inj (h₀ := by simpa using hi) (h₁ := by simpa using hj) this).1 ?_
  simpa using h
 rw [e]
def OrdF (L : Sp.Pool) : List Int → List Int → Prop
 | _, [] => True
 | seen, z :: l => (∀ k ∈ Sp.kidsOf (Sp.nodeOf L z), k ∈ seen) ∧ OrdF L (seen ++ [z]) l
theorem ordF_of {L : Sp.Pool} : ∀ (l seen : List Int), (∀ pre z post, l = pre ++ z :: post → ∀ k ∈ Sp.kidsOf (Sp.nodeOf L z), k ∈ seen ++ pre) → OrdF L seen l := by
 intro l
 induction l with
 | nil => intro _ _; trivial
 | cons z l ih =>
  intro seen h
  refine ⟨fun k hk => by simpa using h [] z l rfl k hk, ih _ (fun pre y post e k hk => ?_)⟩
  have := h (z :: pre) y post (by rw [e]; rfl) k hk
  simpa using this
theorem ordF_subs {L : Sp.Pool} (hW : Sp.Wf L) (t : Int) : OrdF L [] (Sp.subs L t) := ordF_of _ _ (fun pre z post e k hk => by rw [List.nil_append]; exact Sp.subs_ord hW t pre z post e k hk)
theorem subs_in {L : Sp.Pool} (hW : Sp.Wf L) {t u : Int} (h : u ∈ Sp.subs L t) : Sp.inP L u = true := have h := (Sp.subs_mem hW).1 h; (Sp.Sub.le hW h.1 h.2).1
theorem self_sub {L : Sp.Pool} (hW : Sp.Wf L) {t : Int} (h : Sp.inP L t = true) : t ∈ Sp.subs L t := (Sp.subs_mem hW).2 ⟨h, .refl _⟩
end Go.Proofs
end
section
namespace Go.Sp
theorem map_corr {α β γ δ : Type} {f : α → γ} {g : β → γ} {f' : α → δ} {g' : β → δ} : ∀ {K1 : List α} {K2 : List β}, K1.map f = K2.map g → (∀ a ∈ K1, ∀ b ∈ K2, f a = g b → f' a = g' b) → K1.map f' = K2.map g' := by
 intro K1
 induction K1 with
 | nil => intro K2 h _; cases K2 with
  | nil => rfl
  | cons b K2 => simp at h
 | cons a K1 ih => intro K2 h hh; cases K2 with
  | nil => simp at h
  | cons b K2 =>
   simp only [List.map_cons, List.cons.injEq] at h ⊢
   exact ⟨hh a (by simp) b (by simp) h.1, ih h.2 (fun x hx y hy => hh x (List.mem_cons_of_mem _ hx) y (List.mem_cons_of_mem _ hy))⟩
theorem tree_node {L M : Pool} (hL : Wf L) (hM : Wf M) {s t : Int} (hs : inP L s = true) (ht : inP M t = true) (h : treeOf L s = treeOf M t) :
  (nodeOf L s).kind = (nodeOf M t).kind ∧ (nodeOf L s).frm = (nodeOf M t).frm ∧ (nodeOf L s).to = (nodeOf M t).to ∧ (nodeOf L s).num = (nodeOf M t).num ∧ (nodeOf L s).text = (nodeOf M t).text ∧ (kidsOf (nodeOf L s)).map (treeOf L) = (kidsOf (nodeOf M t)).map (treeOf M) := by
 rw [treeOf_in hL hs, treeOf_in hM ht] at h
 simpa using h
theorem tree_size {L M : Pool} (hL : Wf L) (hM : Wf M) : ∀ (n : Nat) (s t : Int), s.toNat = n → inP L s = true → inP M t = true → treeOf L s = treeOf M t → sizeOf L s = sizeOf M t ∧ depthOf L s = depthOf M t := by
 intro n
 induction n using Nat.strongRecOn with
 | _ n ih =>
 intro s t hn hs ht h
 have hk := (tree_node hL hM hs ht h).2.2.2.2.2
 obtain ⟨_, _, _, _, c1, c2, c3⟩ := hL.node hs
 obtain ⟨_, _, _, _, d1, d2, d3⟩ := hM.node ht
 have key : ∀ a ∈ kidsOf (nodeOf L s), ∀ b ∈ kidsOf (nodeOf M t), treeOf L a = treeOf M b → sizeOf L a = sizeOf M b ∧ depthOf L a = depthOf M b := fun a ha b hb e => by
  have := inP_iff.1 (c1 a ha).1
  exact ih a.toNat (by have := (c1 a ha).2; omega) a b rfl (c1 a ha).1 (d1 b hb).1 e
 refine ⟨?_, ?_⟩
 ·rw [c2, d2, map_corr hk (fun a ha b hb e => (key a ha b hb e).1)]
 ·have e := map_corr hk (fun a ha b hb e => (key a ha b hb e).2)
  rw [c3, d3]
  have f1 : ∀ (l : List Int) (P : Pool), l.foldl (fun d k => max d (depthOf P k)) 0 = (l.map (depthOf P)).foldl max 0 := fun l P => by rw [List.foldl_map]
  rw [f1, f1, e]
theorem map_inj {L : Pool} (hL : Wf L) : ∀ {K1 K2 : List Int}, (∀ k ∈ K1, inP L k = true) → (∀ k ∈ K2, inP L k = true) → K1.map (treeOf L) = K2.map (treeOf L) → K1 = K2 := by
 intro K1
 induction K1 with
 | nil => intro K2 _ _ h; cases K2 with
  | nil => rfl
  | cons b K2 => simp at h
 | cons a K1 ih => intro K2 h1 h2 h; cases K2 with
  | nil => simp at h
  | cons b K2 =>
   simp only [List.map_cons, List.cons.injEq] at h
   rw [treeOf_inj hL _ a b rfl (h1 a (by simp)) (h2 b (by simp)) h.1, ih (fun k hk => h1 k (List.mem_cons_of_mem _ hk)) (fun k hk => h2 k (List.mem_cons_of_mem _ hk)) h.2]
structure Ren (L q : Pool) (z : Int) (n : Node) : Prop where
 kind : n.kind = (nodeOf L z).kind
 frm : n.frm = (nodeOf L z).frm
 to : n.to = (nodeOf L z).to
 num : n.num = (nodeOf L z).num
 text : n.text = (nodeOf L z).text
 kin : ∀ k ∈ kidsOf n, inP q k = true
 kids : (kidsOf n).map (treeOf q) = (kidsOf (nodeOf L z)).map (treeOf L)
 a0 : (shapeOf n.kind).kids < 1 → n.a = 0
 b0 : (shapeOf n.kind).kids < 2 → n.b = 0
theorem kidsOf_eq {n m : Node} (hk : n.kind = m.kind) (h : kidsOf n = kidsOf m) (a1 : (shapeOf n.kind).kids < 1 → n.a = 0) (b1 : (shapeOf n.kind).kids < 2 → n.b = 0) (a2 : (shapeOf m.kind).kids < 1 → m.a = 0) (b2 : (shapeOf m.kind).kids < 2 → m.b = 0) : n.a = m.a ∧ n.b = m.b := by
 unfold kidsOf at h
 rw [← hk] at h a2 b2
 rcases kids_le n.kind with e | e | e
 ·exact ⟨by rw [a1 (by omega), a2 (by omega)], by rw [b1 (by omega), b2 (by omega)]⟩
 ·rw [e] at h
  simp at h
  exact ⟨h, by rw [b1 (by omega), b2 (by omega)]⟩
 ·rw [e] at h
  simpa using h
section
variable {L q : Pool} (hL : Wf L) (hq : Wf q) {z : Int} (hz : inP L z = true) {n : Node} (h : Ren L q z n)
include hL hq hz h
theorem Ren.check : check q n = (sizeOf L z, depthOf L z, 0) := by
 obtain ⟨p1, p2, p3, p4, p5, p6, p7⟩ := hL.node hz
 have e1 : plainErr n = 0 := by
  have : plainErr n = plainErr (nodeOf L z) := by unfold plainErr; rw [h.kind, h.frm, h.to, h.num, h.text]
  rw [this, p1]
 have e2 : fieldsErr (shapeOf n.kind) n = 0 := by
  have : fieldsErr (shapeOf n.kind) n = fieldsErr (shapeOf (nodeOf L z).kind) (nodeOf L z) := by unfold fieldsErr; rw [h.kind, h.frm, h.to, h.text]
  rw [this, p4]
 have key : ∀ a ∈ kidsOf n, ∀ b ∈ kidsOf (nodeOf L z), treeOf q a = treeOf L b → sizeOf q a = sizeOf L b ∧ depthOf q a = depthOf L b := fun a ha b hb e => tree_size hq hL _ a b rfl (h.kin a ha) (p5 b hb).1 e
 have e3 := map_corr h.kids (fun a ha b hb e => (key a ha b hb e).1)
 have e4 := map_corr h.kids (fun a ha b hb e => (key a ha b hb e).2)
 have f1 : ∀ (l : List Int) (P : Pool), l.foldl (fun d k => max d (depthOf P k)) 0 = (l.map (depthOf P)).foldl max 0 := fun l P => by rw [List.foldl_map]
 have s1 : 1 + ((kidsOf n).map (sizeOf q)).sum = sizeOf L z := by rw [e3, p6]
 have s2 : (kidsOf n).foldl (fun d k => max d (depthOf q k)) 0 + 1 = depthOf L z := by rw [f1, e4, ← f1, p7]
 have b1 := hL.ok.sizeOf z
 have b2 := hL.ok.depthOf z
 unfold Sp.check
 simp only
 rw [if_neg (by simpa using e1), if_neg, if_neg (by simpa using e2), if_neg, s1, s2, if_neg (by omega)]
 ·simp only [List.any_eq_true, not_exists, not_and]
  intro k hk; rw [h.kin k hk]; decide
 ·have a0 := h.a0; have b0 := h.b0
  simp only [Bool.or_eq_true, Bool.and_eq_true, decide_eq_true_eq, bne_iff_ne, ne_eq, not_or, not_and, Decidable.not_not]
  exact ⟨a0, b0⟩
omit hq in
theorem Ren.tree {v : Int} {M : Pool} (hM : Wf M) (hv : inP M v = true) (hn : nodeOf M v = n) (hk : ∀ k ∈ kidsOf n, treeOf M k = treeOf q k) : treeOf M v = treeOf L z := by
 rw [treeOf_in hM hv, treeOf_in hL hz, hn, h.kind, h.frm, h.to, h.num, h.text, ← h.kids]
 congr 1
 exact List.map_congr_left hk
theorem Ren.node {v : Int} (hv : inP q v = true) (ht : treeOf q v = treeOf L z) : nodeOf q v = n := by
 obtain ⟨k1, k2, k3, k4, k5, k6⟩ := tree_node hq hL hv hz ht
 obtain ⟨_, c2, c3, _, c5, _⟩ := hq.node hv
 have hkk := map_inj hq (fun k hk => (c5 k hk).1) h.kin (k6.trans h.kids.symm)
 obtain ⟨ea, eb⟩ := kidsOf_eq (k1.trans h.kind.symm) hkk c2 c3 h.a0 h.b0
 have g1 := h.kind; have g2 := h.frm; have g3 := h.to; have g4 := h.num; have g5 := h.text
 generalize nodeOf q v = m at *
 generalize nodeOf L z = o at *
 cases m; cases n; simp_all
theorem Ren.find_none (hn : ∀ v, inP q v = true → treeOf q v ≠ treeOf L z) : find q n = none := by
 cases hf : find q n with
 | none => rfl
 | some i =>
  exfalso
  obtain ⟨hi, e⟩ := find_some hf
  have hv : inP q ((i : Int) + 1) = true := inP_iff.2 ⟨by omega, by omega⟩
  exact hn _ hv (h.tree hL hz hq hv (by rw [nodeOf_lt hi, e]) (fun _ _ => rfl))
theorem Ren.find_old {v : Int} (hv : inP q v = true) (ht : treeOf q v = treeOf L z) : find q n = some (v - 1).toNat := by
 have hn := h.node hL hq hz hv ht
 cases hf : find q n with
 | none =>
  exfalso
  unfold find at hf
  rw [List.findIdx?_eq_none_iff] at hf
  obtain ⟨i, hi, rfl⟩ := inP_at hv
  rw [nodeOf_lt hi] at hn
  have := hf q[i] (List.getElem_mem hi)
  simp at this; exact this hn
 | some i =>
  obtain ⟨hi, e⟩ := find_some hf
  have hv2 : inP q ((i : Int) + 1) = true := inP_iff.2 ⟨by omega, by omega⟩
  have := Go.Proofs.nodeOf_inj hq hv2 hv (by rw [nodeOf_lt hi, e, hn])
  rw [← this]; simp
theorem Ren.make_old {v : Int} (hv : inP q v = true) (ht : treeOf q v = treeOf L z) : make q n = (v, 0, q) := by
 have hc := h.check hL hq hz
 have hf := h.find_old hL hq hz hv ht
 have h1 := (inP_iff.1 hv).1
 unfold make
 simp only [hc, hf]
 rw [if_neg (by simp)]
 simp only [Prod.mk.injEq, and_true]; omega
theorem Ren.make_new (hn : ∀ v, inP q v = true → treeOf q v ≠ treeOf L z) (hl : q.length < 65536) : make q n = ((q.length : Int) + 1, 0, q ++ [⟨n, sizeOf L z, depthOf L z⟩]) := by
 have hc := h.check hL hq hz
 have hf := h.find_none hL hq hz hn
 unfold make
 simp only [hc, hf]
 rw [if_neg (by simp), if_neg (by omega)]
theorem Ren.make_full (hl : ¬ q.length < 65536) (hn : ∀ v, inP q v = true → treeOf q v ≠ treeOf L z) : make q n = (0, 6, q) := by
 have hc := h.check hL hq hz
 have hf := h.find_none hL hq hz hn
 unfold make
 simp only [hc, hf]
 rw [if_neg (by simp), if_pos (by omega)]
theorem Ren.made (h0 : (make q n).2.1 = 0) : Wf (make q n).2.2 ∧ inP (make q n).2.2 (make q n).1 = true ∧ treeOf (make q n).2.2 (make q n).1 = treeOf L z ∧ ∀ v, inP q v = true → inP (make q n).2.2 v = true ∧ treeOf (make q n).2.2 v = treeOf q v := by
 have hw := make_wf hq n
 obtain ⟨M, e⟩ := make_app q n
 obtain ⟨m1, m2, _⟩ := make_node h0
 have hold : ∀ v, inP q v = true → inP (make q n).2.2 v = true ∧ treeOf (make q n).2.2 v = treeOf q v := fun v hv => by
  rw [e] at hw ⊢
  exact ⟨inP_app hv, treeOf_app hw _ v rfl hv⟩
 exact ⟨hw, m1, h.tree hL hz hw m1 m2 (fun k hk => (hold k (h.kin k hk)).2), hold⟩
theorem Ren.err : (make q n).2.1 = 0 ∨ (make q n).2.1 = 6 ∧ 65536 ≤ q.length ∧ ∀ v, inP q v = true → treeOf q v ≠ treeOf L z := by
 by_cases hx : ∃ v, inP q v = true ∧ treeOf q v = treeOf L z
 ·obtain ⟨v, hv, ht⟩ := hx
  rw [h.make_old hL hq hz hv ht]; exact .inl rfl
 ·have hx : ∀ v, inP q v = true → treeOf q v ≠ treeOf L z := fun v hv e => hx ⟨v, hv, e⟩
  by_cases hl : q.length < 65536
  ·rw [h.make_new hL hq hz hx hl]; exact .inl rfl
  ·rw [h.make_full hL hq hz hl hx]; exact .inr ⟨rfl, by omega, hx⟩
end
end Go.Sp
end
section
namespace Go.Sp
open Go.Proofs
structure Cp (Lq L : Pool) (own : Int → Int) (seen : List Int) : Prop where
 wf : Wf L
 inn : ∀ s ∈ seen, inP Lq s = true
 at_ : ∀ s ∈ seen, inP L (own s) = true ∧ treeOf L (own s) = treeOf Lq s
 out : ∀ x, x ∉ seen → own x = 0
theorem kidsOf_own (n : Node) (own : Int → Int) : kidsOf { n with a := own n.a, b := own n.b } = (kidsOf n).map own := by
 unfold kidsOf; simp only [List.map_take, List.map_cons, List.map_nil]
theorem Cp.ren {Lq L : Pool} {own : Int → Int} {seen : List Int} (h : Cp Lq L own seen) (hq : Wf Lq) {z : Int} (hz : inP Lq z = true) (hk : ∀ k ∈ kidsOf (nodeOf Lq z), k ∈ seen) :
  Ren Lq L z { nodeOf Lq z with a := own (nodeOf Lq z).a, b := own (nodeOf Lq z).b } := by
 obtain ⟨_, c2, c3, _⟩ := hq.node hz
 have o0 : own 0 = 0 := h.out 0 (fun h0 => by have := (inP_iff.1 (h.inn 0 h0)).1; omega)
 refine ⟨rfl, rfl, rfl, rfl, rfl, ?_, ?_, fun e => by simp only; rw [c2 e, o0], fun e => by simp only; rw [c3 e, o0]⟩
 ·intro k hk2
  rw [kidsOf_own] at hk2
  obtain ⟨x, hx, rfl⟩ := List.mem_map.1 hk2
  exact (h.at_ x (hk x hx)).1
 ·rw [kidsOf_own, List.map_map]
  exact List.map_congr_left (fun x hx => (h.at_ x (hk x hx)).2)
theorem Cp.step {Lq L : Pool} {own : Int → Int} {seen : List Int} (h : Cp Lq L own seen) (hq : Wf Lq) {z : Int} (hz : inP Lq z = true) (hk : ∀ k ∈ kidsOf (nodeOf Lq z), k ∈ seen) {n : Node} (hn : Ren Lq L z n) (h0 : (make L n).2.1 = 0) :
  Cp Lq (make L n).2.2 (fun x => if x = z then (make L n).1 else own x) (seen ++ [z]) := by
 obtain ⟨m1, m2, m3, m4⟩ := hn.made hq h.wf hz h0
 refine ⟨m1, fun s hs => ?_, fun s hs => ?_, fun x hx => ?_⟩
 ·rcases List.mem_append.1 hs with hs | hs
  ·exact h.inn s hs
  ·rw [List.mem_singleton] at hs; subst hs; exact hz
 ·by_cases e : s = z
  ·subst e; simp only [if_true]; exact ⟨m2, m3⟩
  ·simp only [if_neg e]
   have hs : s ∈ seen := (List.mem_append.1 hs).resolve_right (fun hs => e (List.mem_singleton.1 hs))
   obtain ⟨a1, a2⟩ := h.at_ s hs
   exact ⟨(m4 _ a1).1, (m4 _ a1).2.trans a2⟩
 ·simp only [List.mem_append, List.mem_singleton, not_or] at hx
  rw [if_neg hx.2]; exact h.out x hx.1
theorem make_fewC (L : Pool) (n : Node) : (make L n).2.2.length ≤ L.length + 1 := by
 rcases make_pool L n with e | ⟨_, e⟩ <;> rw [e] <;> simp
theorem copyGo_cons (Lq : Pool) (z : Int) (l : List Int) (L : Pool) (own : Int → Int) {n : Node} (hn : { nodeOf Lq z with a := own (nodeOf Lq z).a, b := own (nodeOf Lq z).b } = n) {x e : Int} {L' : Pool} (hm : make L n = (x, e, L')) :
  copyGo Lq (z :: l) L own = if e ≠ 0 then (L, e, own) else copyGo Lq l L' (fun y => if y = z then x else own y) := by
 subst hn
 show (if (make L _).2.1 ≠ 0 then _ else _) = _
 rw [hm]
theorem copyGo_ok {Lq : Pool} (hq : Wf Lq) : ∀ (l seen : List Int) (L : Pool) (own : Int → Int), Cp Lq L own seen → (∀ z ∈ l, inP Lq z = true) → OrdF Lq seen l →
  ((copyGo Lq l L own).2.1 = 0 ∧ Cp Lq (copyGo Lq l L own).1 (copyGo Lq l L own).2.2 (seen ++ l)) ∨ ((copyGo Lq l L own).2.1 = 6 ∧ ¬ (L.length + l.length ≤ 65536)) := by
 intro l
 induction l with
 | nil => intro seen L own h _ _; exact .inl ⟨rfl, by rw [List.append_nil]; exact h⟩
 | cons z l ih =>
  intro seen L own h hl ho
  have hz := hl z (by simp)
  have hn := h.ren hq hz ho.1
  generalize hnn : ({ nodeOf Lq z with a := own (nodeOf Lq z).a, b := own (nodeOf Lq z).b } : Node) = n at hn
  have hf := make_fewC L n
  have he := hn.err hq h.wf hz
  have hs := fun h0 => h.step hq hz ho.1 hn h0
  obtain ⟨x, e, L', hm⟩ : ∃ x e L', make L n = (x, e, L') := ⟨_, _, _, rfl⟩
  rw [copyGo_cons Lq z l L own hnn hm]
  rw [hm] at hf he hs
  simp only at hf he hs
  rcases he with rfl | ⟨rfl, hg, _⟩
  ·rw [if_neg (by simp)]
   rcases ih _ _ _ (hs rfl) (fun x hx => hl x (List.mem_cons_of_mem _ hx)) ho.2 with ⟨e1, e2⟩ | ⟨e1, e2⟩
   ·exact .inl ⟨e1, by rw [List.append_assoc, List.singleton_append] at e2; exact e2⟩
   ·refine .inr ⟨e1, fun hle => e2 ?_⟩
    rw [List.length_cons] at hle; omega
  ·rw [if_pos (by simp)]
   exact .inr ⟨rfl, by rw [List.length_cons]; omega⟩
theorem copyGo_old {Lq : Pool} (hq : Wf Lq) : ∀ (l seen : List Int) (L : Pool) (own : Int → Int), Cp Lq L own seen → (∀ z ∈ l, inP Lq z = true) → OrdF Lq seen l → (∀ z ∈ l, ∃ v, inP L v = true ∧ treeOf L v = treeOf Lq z) →
  (copyGo Lq l L own).2.1 = 0 ∧ (copyGo Lq l L own).1 = L := by
 intro l
 induction l with
 | nil => intro seen L own h _ _ _; exact ⟨rfl, rfl⟩
 | cons z l ih =>
  intro seen L own h hl ho hv
  have hz := hl z (by simp)
  have hn := h.ren hq hz ho.1
  obtain ⟨v, v1, v2⟩ := hv z (by simp)
  have hm := hn.make_old hq h.wf hz v1 v2
  have hs := h.step hq hz ho.1 hn (by rw [hm])
  rw [copyGo_cons Lq z l L own rfl hm]
  rw [hm] at hs
  rw [if_neg (by simp)]
  exact ih _ _ _ hs (fun x hx => hl x (List.mem_cons_of_mem _ hx)) ho.2 (fun x hx => hv x (List.mem_cons_of_mem _ hx))
theorem Cp.start {Lq L : Pool} (hL : Wf L) : Cp Lq L (fun _ => 0) [] := ⟨hL, fun _ h => (by cases h), fun _ h => (by cases h), fun _ _ => rfl⟩
theorem copyS_err {L Lq : Pool} (hL : Wf L) (hq : Wf Lq) (t : Int) : (copyS L Lq t).2.1 = 0 ∨ ((copyS L Lq t).1 = 0 ∧ (copyS L Lq t).2.2 = L) := by
 unfold copyS; split
 ·simp only; split
  ·exact .inr ⟨rfl, rfl⟩
  ·exact .inl rfl
 ·exact .inr ⟨rfl, rfl⟩
theorem copyS_ok {L Lq : Pool} (hL : Wf L) (hq : Wf Lq) {t : Int} (ht : inP Lq t = true) (h0 : (copyS L Lq t).2.1 = 0) :
  Wf (copyS L Lq t).2.2 ∧ inP (copyS L Lq t).2.2 (copyS L Lq t).1 = true ∧ treeOf (copyS L Lq t).2.2 (copyS L Lq t).1 = treeOf Lq t := by
 have h := copyGo_ok hq (subs Lq t) [] L (fun _ => 0) (Cp.start hL) (fun z hz => subs_in hq hz) (ordF_subs hq t)
 unfold copyS at *
 rw [if_pos ht] at *
 simp only at *
 split at h0
 ·rename_i h1; exact absurd h0 h1
 ·rename_i h1
  rw [if_neg h1]
  simp only
  rcases h with ⟨_, h⟩ | ⟨h6, _⟩
  ·rw [List.nil_append] at h
   have := h.at_ t (self_sub hq ht)
   exact ⟨h.wf, this.1, this.2⟩
  ·exact absurd (by rw [h6]; decide) h1
theorem sub_corr {L Lq : Pool} (hL : Wf L) (hq : Wf Lq) {t z : Int} (h : Sub Lq t z) : inP Lq t = true → ∀ v, inP L v = true → treeOf L v = treeOf Lq t → ∃ v', inP L v' = true ∧ treeOf L v' = treeOf Lq z := by
 intro ht v hv e
 induction h with
 | refl => exact ⟨v, hv, e⟩
 | @kid u k h1 hk ih =>
  obtain ⟨v', hv', e'⟩ := ih
  have h1 := (Sub.le hq ht h1).1
  obtain ⟨_, _, _, _, _, hkk⟩ := tree_node hL hq hv' h1 e'
  have hm : treeOf Lq k ∈ (kidsOf (nodeOf L v')).map (treeOf L) := by rw [hkk]; exact List.mem_map_of_mem hk
  obtain ⟨x, hx, hx2⟩ := List.mem_map.1 hm
  exact ⟨x, ((hL.node hv').2.2.2.2.1 x hx).1, hx2⟩
theorem copyS_old {L Lq : Pool} (hL : Wf L) (hq : Wf Lq) {t v : Int} (ht : inP Lq t = true) (hv : inP L v = true) (e : treeOf L v = treeOf Lq t) : copyS L Lq t = (v, 0, L) := by
 have h := copyGo_old hq (subs Lq t) [] L (fun _ => 0) (Cp.start hL) (fun z hz => subs_in hq hz) (ordF_subs hq t) (fun z hz => sub_corr hL hq ((subs_mem hq).1 hz).2 ht v hv e)
 have h0 : (copyS L Lq t).2.1 = 0 := by unfold copyS; rw [if_pos ht]; simp only; rw [if_neg (by rw [h.1]; simp)]
 have hp : (copyS L Lq t).2.2 = L := by unfold copyS; rw [if_pos ht]; simp only; rw [if_neg (by rw [h.1]; simp)]; exact h.2
 obtain ⟨_, k2, k3⟩ := copyS_ok hL hq ht h0
 rw [hp] at k2 k3
 have k4 := treeOf_inj hL _ _ v rfl k2 hv (k3.trans e.symm)
 refine Prod.ext k4 (Prod.ext h0 hp)
theorem copyS_new {Lq : Pool} (hq : Wf Lq) {t : Int} (ht : inP Lq t = true) : (copyS [] Lq t).2.1 = 0 := by
 have hf := subs_few hq t
 have := hq.ok.few
 rcases copyGo_ok hq (subs Lq t) [] [] (fun _ => 0) (Cp.start Wf.nil) (fun z hz => subs_in hq hz) (ordF_subs hq t) with ⟨h, _⟩ | ⟨_, h⟩
 ·unfold copyS; rw [if_pos ht]; simp only; rw [if_neg (by rw [h]; simp)]
 ·exact absurd (by simp; omega) h
structure OvC (L M : Pool) (s1 s2 : (Int → Bool) × List Int) : Prop where
 list : s1.2.map (treeOf L) = s2.2.map (treeOf M)
 i1 : ∀ x ∈ s1.2, inP L x = true
 i2 : ∀ x ∈ s2.2, inP M x = true
 mark : ∀ x y, inP L x = true → inP M y = true → treeOf L x = treeOf M y → s1.1 x = s2.1 y
theorem over_corr {L M : Pool} (hL : Wf L) (hM : Wf M) : ∀ (n : Nat) (m : Nat) (s t : Int) (st1 st2 : (Int → Bool) × List Int), s.toNat < n → t.toNat < m → ((inP L s = false ∧ inP M t = false) ∨ (inP L s = true ∧ inP M t = true ∧ treeOf L s = treeOf M t)) → OvC L M st1 st2 → OvC L M (overS L n s st1) (overS M m t st2) := by
 intro n
 induction n with
 | zero => intro m s t st1 st2 h; omega
 | succ n ih =>
  intro m s t st1 st2 hn hm hst hC
  cases m with
  | zero => omega
  | succ m =>
  rw [overS, overS]
  rcases hst with ⟨e1, e2⟩ | ⟨hs, ht, e⟩
  ·rw [if_neg (by rw [e1]; simp), if_neg (by rw [e2]; simp)]; exact hC
  ·have hmk := hC.mark s t hs ht e
   rw [hs, ht]
   cases hv : st1.1 s with
   | true => rw [if_neg (by simp), if_neg (by rw [← hmk, hv]; simp)]; exact hC
   | false =>
    rw [if_pos ⟨rfl, rfl⟩, if_pos ⟨rfl, by rw [← hmk, hv]⟩]
    obtain ⟨k1, _, _, _, _, k6⟩ := tree_node hL hM hs ht e
    obtain ⟨_, c2, c3, _, c5, _⟩ := hL.node hs
    obtain ⟨_, d2, d3, _, d5, _⟩ := hM.node ht
    have C1 : OvC L M (upd st1.1 s true, st1.2) (upd st2.1 t true, st2.2) := ⟨hC.list, hC.i1, hC.i2, fun x y hx hy exy => by
     simp only [upd]
     by_cases ex : x = s
     ·subst ex
      have : y = t := treeOf_inj hM _ y t rfl hy ht (exy.symm.trans e)
      rw [if_pos rfl, if_pos this]
     ·have : y ≠ t := fun ey => ex (treeOf_inj hL _ x s rfl hx hs (by rw [exy, ey, e]))
      rw [if_neg ex, if_neg this]; exact hC.mark x y hx hy exy⟩
    have hs1 := (inP_iff.1 hs).1
    have ht1 := (inP_iff.1 ht).1
    have kid : (((inP L (nodeOf L s).a = false ∧ inP M (nodeOf M t).a = false) ∨ (inP L (nodeOf L s).a = true ∧ inP M (nodeOf M t).a = true ∧ treeOf L (nodeOf L s).a = treeOf M (nodeOf M t).a)) ∧
      ((inP L (nodeOf L s).b = false ∧ inP M (nodeOf M t).b = false) ∨ (inP L (nodeOf L s).b = true ∧ inP M (nodeOf M t).b = true ∧ treeOf L (nodeOf L s).b = treeOf M (nodeOf M t).b))) ∧
      ((nodeOf L s).a.toNat < n ∧ (nodeOf L s).b.toNat < n) ∧ (nodeOf M t).a.toNat < m ∧ (nodeOf M t).b.toNat < m := by
     have z0 : ∀ P : Pool, inP P 0 = false := fun P => by simp [inP]
     unfold kidsOf at k6 c5 d5
     rw [← k1] at k6 d2 d3 d5
     rcases kids_le (nodeOf L s).kind with h | h | h
     ·rw [c2 (by omega), c3 (by omega), d2 (by omega), d3 (by omega)]
      exact ⟨⟨.inl ⟨z0 _, z0 _⟩, .inl ⟨z0 _, z0 _⟩⟩, ⟨by omega, by omega⟩, by omega, by omega⟩
     ·rw [c3 (by omega), d3 (by omega)]
      rw [h] at k6 c5 d5
      simp at k6 c5 d5
      have := inP_iff.1 c5.1; have := inP_iff.1 d5.1
      exact ⟨⟨.inr ⟨c5.1, d5.1, k6⟩, .inl ⟨z0 _, z0 _⟩⟩, ⟨by omega, by omega⟩, by omega, by omega⟩
     ·rw [h] at k6 c5 d5
      simp at k6 c5 d5
      have := inP_iff.1 c5.1.1; have := inP_iff.1 d5.1.1; have := inP_iff.1 c5.2.1; have := inP_iff.1 d5.2.1
      exact ⟨⟨.inr ⟨c5.1.1, d5.1.1, k6.1⟩, .inr ⟨c5.2.1, d5.2.1, k6.2⟩⟩, ⟨by omega, by omega⟩, by omega, by omega⟩
    have r1 := ih m _ _ _ _ kid.2.1.1 kid.2.2.1 kid.1.1 C1
    have r2 := ih m _ _ _ _ kid.2.1.2 kid.2.2.2 kid.1.2 r1
    refine ⟨?_, ?_, ?_, r2.mark⟩
    ·simp only [List.map_append, List.map_cons, List.map_nil, r2.list, e]
    ·intro x hx
     rcases List.mem_append.1 hx with hx | hx
     ·exact r2.i1 x hx
     ·rw [List.mem_singleton] at hx; subst hx; exact hs
    ·intro x hx
     rcases List.mem_append.1 hx with hx | hx
     ·exact r2.i2 x hx
     ·rw [List.mem_singleton] at hx; subst hx; exact ht
theorem subs_tree {L M : Pool} (hL : Wf L) (hM : Wf M) {s t : Int} (hs : inP L s = true) (ht : inP M t = true) (e : treeOf L s = treeOf M t) : (subs L s).map (treeOf L) = (subs M t).map (treeOf M) :=
 (over_corr hL hM (s.toNat + 1) (t.toNat + 1) s t (fun _ => false, []) (fun _ => false, []) (by omega) (by omega) (.inr ⟨hs, ht, e⟩) ⟨rfl, by simp, by simp, fun _ _ _ _ _ => rfl⟩).list
theorem posOf_tree {L M : Pool} (hL : Wf L) (hM : Wf M) {a b : Int} (ha : inP L a = true) (hb : inP M b = true) (e : treeOf L a = treeOf M b) : ∀ (l1 l2 : List Int), (∀ x ∈ l1, inP L x = true) → (∀ x ∈ l2, inP M x = true) → l1.map (treeOf L) = l2.map (treeOf M) → posOf l1 a = posOf l2 b := by
 intro l1
 induction l1 with
 | nil => intro l2 _ _ h; cases l2 with
  | nil => rfl
  | cons y l2 => simp at h
 | cons x l1 ih => intro l2 h1 h2 h; cases l2 with
  | nil => simp at h
  | cons y l2 =>
   simp only [List.map_cons, List.cons.injEq] at h
   have hi := ih l2 (fun k hk => h1 k (List.mem_cons_of_mem _ hk)) (fun k hk => h2 k (List.mem_cons_of_mem _ hk)) h.2
   have hxy : (x == a) = (y == b) := by
    by_cases ex : x = a
    ·have : y = b := treeOf_inj hM _ y b rfl (h2 y (by simp)) hb (by rw [← h.1, ex, e])
     simp [ex, this]
    ·have : y ≠ b := fun ey => ex (treeOf_inj hL _ x a rfl (h1 x (by simp)) ha (by rw [h.1, ey, e]))
     rw [beq_false_of_ne ex, beq_false_of_ne this]
   unfold posOf at *
   rw [List.idxOf_cons, List.idxOf_cons, hxy, hi]
theorem textFrom_tree {L M : Pool} (hL : Wf L) (hM : Wf M) : ∀ (l1 l2 s1 s2 : List Int), (∀ x ∈ l1, inP L x = true) → (∀ x ∈ l2, inP M x = true) → (∀ x ∈ s1, inP L x = true) → (∀ x ∈ s2, inP M x = true) → l1.map (treeOf L) = l2.map (treeOf M) → s1.map (treeOf L) = s2.map (treeOf M) → textFrom L s1 l1 = textFrom M s2 l2 := by
 intro l1
 induction l1 with
 | nil => intro l2 s1 s2 _ _ _ _ h _; cases l2 with
  | nil => rfl
  | cons y l2 => simp at h
 | cons x l1 ih => intro l2 s1 s2 h1 h2 h3 h4 h h5; cases l2 with
  | nil => simp at h
  | cons y l2 =>
   simp only [List.map_cons, List.cons.injEq] at h
   have hx := h1 x (by simp)
   have hy := h2 y (by simp)
   obtain ⟨k1, k2, k3, k4, k5, k6⟩ := tree_node hL hM hx hy h.1
   obtain ⟨_, _, _, _, c5, _⟩ := hL.node hx
   obtain ⟨_, _, _, _, d5, _⟩ := hM.node hy
   have hi := ih l2 (s1 ++ [x]) (s2 ++ [y]) (fun k hk => h1 k (List.mem_cons_of_mem _ hk)) (fun k hk => h2 k (List.mem_cons_of_mem _ hk))
    (fun k hk => by rcases List.mem_append.1 hk with hk | hk; exact h3 k hk; rw [List.mem_singleton] at hk; subst hk; exact hx)
    (fun k hk => by rcases List.mem_append.1 hk with hk | hk; exact h4 k hk; rw [List.mem_singleton] at hk; subst hk; exact hy) h.2 (by simp [h5, h.1])
   rw [textFrom, textFrom, hi]
   congr 1
   unfold nodeText
   rw [k1]
   congr 1
   have hf : ∀ f ∈ flds (nodeOf M y).kind, f.bytes (nodeOf L x) (posOf s1 (nodeOf L x).a) (posOf s1 (nodeOf L x).b) = f.bytes (nodeOf M y) (posOf s2 (nodeOf M y).a) (posOf s2 (nodeOf M y).b) := by
    intro f hf
    have hk1 : Fld.fst ∈ flds (nodeOf M y).kind → posOf s1 (nodeOf L x).a = posOf s2 (nodeOf M y).a := fun hf => by
     have m1 := fst_kid (n := nodeOf L x) (by rw [k1]; exact hf)
     have m2 := fst_kid hf
     refine posOf_tree hL hM (c5 _ m1).1 (d5 _ m2).1 ?_ s1 s2 h3 h4 h5
     unfold kidsOf at k6 m1
     rw [k1] at k6 m1
     rcases kids_le (nodeOf M y).kind with e | e | e <;> rw [e] at k6 m1 <;> simp at k6 m1
     ·exact k6
     ·exact k6.1
    have hk2 : Fld.snd ∈ flds (nodeOf M y).kind → posOf s1 (nodeOf L x).b = posOf s2 (nodeOf M y).b := fun hf => by
     have m1 := snd_kid (n := nodeOf L x) (by rw [k1]; exact hf)
     have m2 := snd_kid hf
     have e : (shapeOf (nodeOf M y).kind).kids = 2 := by
      unfold flds at hf
      repeat' split at hf
      all_goals first | (exfalso; revert hf; decide) | skip
      all_goals (rename_i h4; rw [h4]; rfl)
     refine posOf_tree hL hM (c5 _ m1).1 (d5 _ m2).1 ?_ s1 s2 h3 h4 h5
     unfold kidsOf at k6
     rw [k1, e] at k6
     simp at k6
     exact k6.2
    cases f
    ·simp only [Fld.bytes, k2]
    ·simp only [Fld.bytes, k3]
    ·simp only [Fld.bytes, k4]
    ·simp only [Fld.bytes, k5]
    ·simp only [Fld.bytes, hk1 hf]
    ·simp only [Fld.bytes, hk2 hf]
   have cg : ∀ (fs : List Fld) (g1 g2 : Fld → List UInt8), (∀ f ∈ fs, g1 f = g2 f) → fs.flatMap g1 = fs.flatMap g2 := by
    intro fs g1 g2
    induction fs with
    | nil => intro _; rfl
    | cons f fs ihf => intro hh; rw [List.flatMap_cons, List.flatMap_cons, hh f (by simp), ihf (fun x hx => hh x (List.mem_cons_of_mem _ hx))]
   exact cg _ _ _ hf
theorem textOf_tree {L M : Pool} (hL : Wf L) (hM : Wf M) {s t : Int} (hs : inP L s = true) (ht : inP M t = true) (e : treeOf L s = treeOf M t) : textOf L s = textOf M t :=
 textFrom_tree hL hM _ _ [] [] (fun _ h => subs_in hL h) (fun _ h => subs_in hM h) (by simp) (by simp) (subs_tree hL hM hs ht e) rfl
end Go.Sp
end
section
namespace Go.Sp
open Go.Proofs
def _root_.Go.Proofs.Fld.fill (n : Node) (na nb : Nat) (x : Raw) : Fld → Raw
 | .from_ => { x with frm := n.frm.toNat }
 | .to_ => { x with to := n.to.toNat }
 | .num => { x with num := n.num.toNat }
 | .text => { x with text := n.text.data.toList }
 | .fst => { x with a := na, kids := 1 }
 | .snd => { x with b := nb, kids := 2 }
theorem rNum_put {bs : List UInt8} {r : Rd} (he : r.err = 0) {m : Nat} (hm : m < 18446744073709551616) {rest : List UInt8} (h : bs.drop r.at_ = varint m ++ rest) : rNum bs r = (m, ⟨r.at_ + (varint m).length, 0, r.spot⟩) := by
 unfold rNum; rw [if_pos he, h, rdNum_varint hm]
theorem rText_put {bs : List UInt8} {r : Rd} (he : r.err = 0) {s : ByteArray} (hs : s.size ≤ 64) {rest : List UInt8} (h : bs.drop r.at_ = textBytes s ++ rest) : rText bs 64 r = (s.data.toList, ⟨r.at_ + (textBytes s).length, 0, r.spot⟩) := by
 have hl : s.data.toList.length = s.size := Array.length_toList
 have hln := congrArg List.length h
 unfold textBytes at h hln ⊢
 rw [List.append_assoc] at h
 rw [List.length_drop, List.length_append, List.length_append, hl] at hln
 unfold rText
 rw [if_pos he, h, rdNum_varint (by omega)]
 simp only
 have hv : 0 < (varint s.size).length := by unfold varint; split <;> simp
 rw [if_neg (by omega), if_neg (by omega)]
 have hd : bs.drop (r.at_ + (varint s.size).length) = s.data.toList ++ rest := by
  rw [← List.drop_drop, h, List.drop_left]
 rw [hd, ← hl, List.take_left, List.length_append]
 simp only [Prod.mk.injEq, Rd.mk.injEq, and_true, true_and]
 omega
theorem rdFlds_put {bs : List UInt8} {n : Node} {na nb : Nat} (h1 : n.frm < 16) (h2 : n.to < 16) (h3 : isNum n.num) (h4 : n.text.size ≤ 64) (ha : na < 65537) (hb : nb < 65537) : ∀ (fs : List Fld) (x : Raw) (r : Rd) (rest : List UInt8), r.err = 0 → bs.drop r.at_ = fs.flatMap (Fld.bytes n na nb) ++ rest →
  rdFlds bs fs (x, r) = (fs.foldl (fun x f => f.fill n na nb x) x, ⟨r.at_ + (fs.flatMap (Fld.bytes n na nb)).length, 0, r.spot⟩) := by
 intro fs
 induction fs with
 | nil => intro x r rest he _; rw [rdFlds]; obtain ⟨a, e, s⟩ := r; simp only at he; subst he; rfl
 | cons f fs ih =>
  intro x r rest he h
  rw [List.flatMap_cons, List.append_assoc] at h
  have h3' := h3.2
  have key : f.raw bs r x = f.fill n na nb x ∧ f.rd bs r = ⟨r.at_ + (f.bytes n na nb).length, 0, r.spot⟩ := by
   cases f
   ·have := rNum_put he (m := n.frm.toNat) (by omega) h; simp only [Fld.raw, Fld.rd, Fld.fill, Fld.bytes, this, and_self]
   ·have := rNum_put he (m := n.to.toNat) (by omega) h; simp only [Fld.raw, Fld.rd, Fld.fill, Fld.bytes, this, and_self]
   ·have := rNum_put he (m := n.num.toNat) (by omega) h; simp only [Fld.raw, Fld.rd, Fld.fill, Fld.bytes, this, and_self]
   ·have := rText_put he h4 h; simp only [Fld.raw, Fld.rd, Fld.fill, Fld.bytes, this, and_self]
   ·have := rNum_put he (m := na) (by omega) h; simp only [Fld.raw, Fld.rd, Fld.fill, Fld.bytes, this, and_self]
   ·have := rNum_put he (m := nb) (by omega) h; simp only [Fld.raw, Fld.rd, Fld.fill, Fld.bytes, this, and_self]
  rw [rdFlds, key.1, key.2, ih _ _ rest rfl (by simp only; rw [← List.drop_drop, h, List.drop_left]), List.foldl_cons, List.flatMap_cons, List.length_append, Nat.add_assoc]
def ownOf (seen : List Int) (x : Int) : Int := if x ∈ seen then (posOf seen x : Int) + 1 else 0
theorem ownOf_snoc {seen : List Int} {z : Int} (h : z ∉ seen) : ownOf (seen ++ [z]) = fun x => if x = z then ((seen.length : Int) + 1) else ownOf seen x := by
 funext x
 unfold ownOf
 by_cases e : x = z
 ·subst e; simp only [List.mem_append, List.mem_singleton, or_true, if_true]; rw [posOf_new h]
 ·rw [if_neg e]
  by_cases hx : x ∈ seen
  ·rw [if_pos (List.mem_append_left _ hx), if_pos hx, posOf_app hx]
  ·rw [if_neg hx, if_neg (by simp [hx, e])]
theorem raw_node {L : Pool} (hW : Wf L) (hN : Nums L) {z : Int} (hz : inP L z = true) {seen : List Int} (h0 : (0 : Int) ∉ seen) (hk : ∀ k ∈ kidsOf (nodeOf L z), k ∈ seen) :
  let x := (flds (nodeOf L z).kind).foldl (fun x f => f.fill (nodeOf L z) (posOf seen (nodeOf L z).a) (posOf seen (nodeOf L z).b) x) noRaw
  x.node (nodeOf L z).kind.toNat = { nodeOf L z with a := ownOf seen (nodeOf L z).a, b := ownOf seen (nodeOf L z).b } ∧ nodeErr (nodeOf L z).kind.toNat seen.length x 0 = 0 := by
 obtain ⟨k1, k9, f0, f1, t0, t1, x1⟩ := node_fit hW hz
 obtain ⟨d1, d2, d3, d4, d5, d6⟩ := node_def hW hz
 obtain ⟨_, _, _, p4, _⟩ := hW.node hz
 have hn := hN.node z
 have hf := fst_kid (n := nodeOf L z)
 have hs := snd_kid (n := nodeOf L z)
 generalize nodeOf L z = n at *
 obtain ⟨k, f, t, u, tx, a, b⟩ := n
 simp only at *
 have hn1 := hn.1
 have w0 : ownOf seen 0 = 0 := by unfold ownOf; rw [if_neg h0]
 have ha : Fld.fst ∈ flds k → ownOf seen a = (posOf seen a : Int) + 1 ∧ posOf seen a < seen.length := fun h => by
  have := hk _ (hf h); unfold ownOf; rw [if_pos this]; exact ⟨rfl, posOf_lt this⟩
 have hb : Fld.snd ∈ flds k → ownOf seen b = (posOf seen b : Int) + 1 ∧ posOf seen b < seen.length := fun h => by
  have := hk _ (hs h); unfold ownOf; rw [if_pos this]; exact ⟨rfl, posOf_lt this⟩
 have ft : (f.toNat : Int) = f := by omega
 have tt : (t.toNat : Int) = t := by omega
 have ut : (u.toNat : Int) = u := by omega
 have g16 : ¬ 16 ≤ f.toNat := by omega
 have g17 : ¬ 16 ≤ t.toNat := by omega
 have tb : (⟨tx.data.toList.toArray⟩ : ByteArray) = tx := by cases tx; simp
 have ftn : f.toNat = t.toNat → f = t := fun h => by omega
 have hne : k = 8 ∨ k = 9 → f.toNat ≠ t.toNat := fun hk8 e => by
  have := ftn e
  subst this
  unfold fieldsErr at p4
  rcases hk8 with rfl | rfl <;> simp [shapeOf] at p4
 clear p4 hf hs hk hn hn1 hW hN
 have : k = 1 ∨ k = 2 ∨ k = 3 ∨ k = 4 ∨ k = 5 ∨ k = 6 ∨ k = 7 ∨ k = 8 ∨ k = 9 := by omega
 rcases this with rfl | rfl | rfl | rfl | rfl | rfl | rfl | rfl | rfl <;>
  simp [flds, shapeOf, noRaw, Fld.fill, Raw.node, nodeErr, w0, ft, tt, ut, g16, g17, tb] at d1 d2 d3 d4 d5 d6 ha hb hne ⊢ <;> simp_all <;> omega
end Go.Sp
end
section
namespace Go.Sp
open Go.Proofs
theorem cp_le {L q : Pool} {seen : List Int} (h : Cp L q (ownOf seen) seen) (hl : q.length = seen.length) (hn : seen.Nodup) {v : Int} (hv : inP q v = true) : ∃ s ∈ seen, ownOf seen s = v ∧ treeOf q v = treeOf L s := by
 obtain ⟨h1, h2⟩ := inP_iff.1 hv
 have hi : (v - 1).toNat < seen.length := by omega
 have hm : seen[(v - 1).toNat] ∈ seen := List.getElem_mem hi
 have hp : posOf seen seen[(v - 1).toNat] = (v - 1).toNat := by
  have hlt := posOf_lt hm
  refine (List.getElem_inj (h₀ := hlt) (h₁ := hi) hn).1 ?_
  exact List.getElem_idxOf hlt
 have ho : ownOf seen seen[(v - 1).toNat] = v := by unfold ownOf; rw [if_pos hm, hp]; omega
 refine ⟨_, hm, ho, ?_⟩
 have := (h.at_ _ hm).2
 rw [ho] at this; exact this
theorem nodeText_pos (L : Pool) (seen : List Int) (z : Int) : 0 < (nodeText L seen z).length := by unfold nodeText; simp
theorem rdGo_put {L : Pool} (hW : Wf L) (hN : Nums L) {bs : List UInt8} : ∀ (l seen : List Int) (q : Pool) (r : Rd) (ps : List Nat) (fuel : Nat), Cp L q (ownOf seen) seen → q.length = seen.length → ps.length = seen.length → OrdF L seen l → (seen ++ l).Nodup → (∀ z ∈ l, inP L z = true) →
  r.err = 0 → r.at_ ≤ bs.length → bs.drop r.at_ = textFrom L seen l → bs.length - r.at_ ≤ fuel → seen.length + l.length ≤ 65535 →
  ∃ q' ps', rdGo bs fuel q r ps = rdEnd q' ps' ∧ Cp L q' (ownOf (seen ++ l)) (seen ++ l) ∧ q'.length = (seen ++ l).length ∧ ps'.length = (seen ++ l).length := by
 intro l
 induction l with
 | nil =>
  intro seen q r ps fuel hC hq hp _ _ _ _ hat hd _ _
  refine ⟨q, ps, rdGo_end ?_ fuel, by rw [List.append_nil]; exact hC, by rw [List.append_nil]; exact hq, by rw [List.append_nil]; exact hp⟩
  have := congrArg List.length hd
  simp [textFrom] at this; omega
 | cons z l ih =>
  intro seen q r ps fuel hC hq hp ho hnd hl he hat hd hfu hsm
  have hz := hl z (by simp)
  have hzn : z ∉ seen := fun h => (List.nodup_append.1 hnd).2.2 z h z (by simp) rfl
  have hsn : seen.Nodup := (List.nodup_append.1 hnd).1
  have h0 : (0 : Int) ∉ seen := fun h => by have := (inP_iff.1 (hC.inn 0 h)).1; omega
  rw [textFrom] at hd
  have hpos := nodeText_pos L seen z
  have hdl := congrArg List.length hd
  rw [List.length_drop, List.length_append] at hdl
  have hlt : r.at_ < bs.length := by omega
  obtain ⟨fuel, rfl⟩ : ∃ k, fuel = k + 1 := ⟨fuel - 1, by omega⟩
  rw [List.length_cons] at hsm
  obtain ⟨k1, k9, f0, f1, t0, t1, x1⟩ := node_fit hW hz
  have hnum := hN.node z
  have hcons : bs.drop r.at_ = bs[r.at_] :: bs.drop (r.at_ + 1) := List.drop_eq_getElem_cons hlt
  have htxt := hd
  rw [hcons] at htxt
  unfold nodeText at htxt
  rw [List.cons_append, List.cons.injEq] at htxt
  obtain ⟨hb, hrest⟩ := htxt
  have hbk : bs[r.at_].toNat = (nodeOf L z).kind.toNat := by rw [hb, toNat_ofNat (by omega)]
  have hkk : (((nodeOf L z).kind.toNat : Nat) : Int) = (nodeOf L z).kind := by omega
  have hfl := rdFlds_put f1 t1 hnum x1 (by have := posOf_le seen (nodeOf L z).a; omega) (by have := posOf_le seen (nodeOf L z).b; omega) (flds (nodeOf L z).kind) noRaw ⟨r.at_ + 1, 0, r.spot⟩ (textFrom L (seen ++ [z]) l) rfl hrest
  obtain ⟨hraw, hne⟩ := raw_node hW hN hz h0 ho.1
  have hren := hC.ren hW hz ho.1
  have hnew : ∀ v, inP q v = true → treeOf q v ≠ treeOf L z := fun v hv e => by
   obtain ⟨s, hs, _, e2⟩ := cp_le hC hq hsn hv
   have := treeOf_inj hW _ s z rfl (hC.inn s hs) hz (e2.symm.trans e)
   exact hzn (this ▸ hs)
  have hmk := hren.make_new hW hC.wf hz hnew (by omega)
  have hfn := hren.find_none hW hC.wf hz hnew
  have hst := hC.step hW hz ho.1 hren (by rw [hmk])
  have hstep : rdStep bs q r = ((make q { nodeOf L z with a := ownOf seen (nodeOf L z).a, b := ownOf seen (nodeOf L z).b }).2.2, 0, ⟨r.at_ + 1 + ((flds (nodeOf L z).kind).flatMap (Fld.bytes (nodeOf L z) (posOf seen (nodeOf L z).a) (posOf seen (nodeOf L z).b))).length, 0, r.spot⟩) := by
   rw [rdStep_eq bs q r hlt he, hbk, hkk, hfl, if_pos (by unfold isKindN; simp; omega)]
   unfold rdIn
   simp only at hraw hne ⊢
   rw [hraw, hq, hne, hfn, if_neg (by simp), if_neg (by simp), hmk]
  have hq1 : (make q { nodeOf L z with a := ownOf seen (nodeOf L z).a, b := ownOf seen (nodeOf L z).b }).2.2.length = (seen ++ [z]).length := by rw [hmk]; simp [hq]
  have hown : (fun x => if x = z then (make q { nodeOf L z with a := ownOf seen (nodeOf L z).a, b := ownOf seen (nodeOf L z).b }).1 else ownOf seen x) = ownOf (seen ++ [z]) := by rw [ownOf_snoc hzn, hmk, hq]
  rw [hown] at hst
  have hd2 : bs.drop (r.at_ + 1 + ((flds (nodeOf L z).kind).flatMap (Fld.bytes (nodeOf L z) (posOf seen (nodeOf L z).a) (posOf seen (nodeOf L z).b))).length) = textFrom L (seen ++ [z]) l := by
   rw [← List.drop_drop, hrest, List.drop_left]
  have hle : r.at_ + 1 + ((flds (nodeOf L z).kind).flatMap (Fld.bytes (nodeOf L z) (posOf seen (nodeOf L z).a) (posOf seen (nodeOf L z).b))).length ≤ bs.length := by
   have := congrArg List.length hrest
   rw [List.length_drop, List.length_append] at this; omega
  rw [rdGo, if_pos hlt, hstep]
  simp only
  rw [if_neg (by simp)]
  obtain ⟨q', ps', g1, g2, g3, g4⟩ := ih (seen ++ [z]) _ ⟨_, 0, r.spot⟩ (ps ++ [r.at_]) fuel hst hq1 (by simp [hp]) ho.2 (by simpa using hnd) (fun x hx => hl x (List.mem_cons_of_mem _ hx)) rfl hle hd2 (by simp only; omega) (by rw [List.length_append, List.length_singleton]; omega)
  rw [List.append_assoc, List.singleton_append] at g2 g3 g4
  exact ⟨q', ps', g1, g2, g3, g4⟩
theorem inRow_all : ∀ (l : List Int) (i : Nat), (∀ j (h : j < l.length), l[j] = ((i + j : Nat) : Int) + 1) → inRow i l = i + l.length := by
 intro l
 induction l with
 | nil => intro i _; rfl
 | cons s l ih =>
  intro i h
  have h0 := h 0 (by simp)
  simp only [List.getElem_cons_zero, Nat.add_zero] at h0
  rw [inRow, if_pos h0, ih (i + 1) (fun j hj => by have := h (j + 1) (by simpa using hj); simp only [List.getElem_cons_succ] at this; rw [this]; congr 2; omega), List.length_cons]
  omega
theorem subs_lastC {L : Pool} {t : Int} (h : inP L t = true) : ∃ pre, subs L t = pre ++ [t] := by
 unfold subs; rw [overS, if_pos ⟨h, rfl⟩]; exact ⟨_, rfl⟩
theorem rdText_put {L : Pool} (hW : Wf L) (hN : Nums L) {t : Int} (ht : inP L t = true) (hl : (textOf L t).length ≤ 4096) :
  ∃ q : Pool, rdText (textOf L t) = (some q, 0, 0) ∧ Wf q ∧ inP q q.length = true ∧ treeOf q q.length = treeOf L t := by
 have hself := self_sub hW ht
 have hnd := subs_nodup hW t
 have hfew : (subs L t).length ≤ (textOf L t).length := by
  have : ∀ (l seen : List Int), l.length ≤ (textFrom L seen l).length := by
   intro l; induction l with
   | nil => intro _; simp
   | cons z l ih => intro seen; have := nodeText_pos L seen z; have := ih (seen ++ [z]); rw [textFrom, List.length_append, List.length_cons]; omega
  exact this _ _
 have hne : 0 < (subs L t).length := List.length_pos_of_mem hself
 obtain ⟨q, ps, g1, g2, g3, g4⟩ := rdGo_put hW hN (bs := textOf L t) (subs L t) [] [] ⟨0, 0, 0⟩ [] (textOf L t).length (by
   have := Cp.start (Lq := L) Wf.nil
   have e : ownOf [] = fun _ => 0 := by funext x; simp [ownOf]
   rw [e]; exact this) rfl rfl (ordF_subs hW t) (by simpa using hnd) (fun z hz => subs_in hW hz) rfl (Nat.zero_le _) rfl (Nat.le_refl _) (by simp; omega)
 rw [List.nil_append] at g2 g3 g4
 have hown : ownOf (subs L t) t = q.length := by
  obtain ⟨pre, hp⟩ := subs_lastC ht
  have hnp : t ∉ pre := by rw [hp] at hnd; exact fun h => (List.nodup_append.1 hnd).2.2 t h t (by simp) rfl
  unfold ownOf
  rw [if_pos hself, g3, hp, posOf_new hnp]; simp
 obtain ⟨a1, a2⟩ := g2.at_ t hself
 rw [hown] at a1 a2
 have hsub : subs q q.length = (subs L t).map (ownOf (subs L t)) := by
  refine map_inj g2.wf (fun k hk => subs_in g2.wf hk) (fun k hk => ?_) ?_
  ·obtain ⟨x, hx, rfl⟩ := List.mem_map.1 hk; exact (g2.at_ x hx).1
  ·rw [subs_tree g2.wf hW a1 ht a2, List.map_map]
   exact List.map_congr_left (fun x hx => ((g2.at_ x hx).2).symm)
 have hrow : inRow 0 (subs q q.length) = ps.length := by
  rw [inRow_all, hsub, List.length_map, Nat.zero_add, g4]
  intro j hj
  have hj' : j < (subs L t).length := by rw [hsub, List.length_map] at hj; exact hj
  simp only [hsub, List.getElem_map, Nat.zero_add]
  have hm : (subs L t)[j] ∈ subs L t := List.getElem_mem hj'
  have hp : posOf (subs L t) (subs L t)[j] = j := by
   have hlt := posOf_lt hm
   exact (List.getElem_inj (h₀ := hlt) (h₁ := hj') hnd).1 (List.getElem_idxOf hlt)
  unfold ownOf; rw [if_pos hm, hp]
 refine ⟨q, ?_, g2.wf, a1, a2⟩
 unfold rdText
 rw [if_neg (by omega), if_neg (by omega), g1]
 unfold rdEnd
 simp only
 rw [dif_neg (by omega)]
theorem dec_enc {L : Pool} (hW : Wf L) (hN : Nums L) {t : Int} (ht : inP L t = true) (hl : (textOf L t).length ≤ 4096) :
  decS L (textOf L t) = (t, 0, 0, L) ∧ (decS [] (textOf L t)).2.1 = 0 ∧ treeOf (decS [] (textOf L t)).2.2.2 (decS [] (textOf L t)).1 = treeOf L t := by
 obtain ⟨q, h1, h2, h3, h4⟩ := rdText_put hW hN ht hl
 refine ⟨?_, ?_⟩
 ·unfold decS; rw [h1]; simp only
  rw [copyS_old hW h2 h3 ht h4.symm]
 ·unfold decS; rw [h1]; simp only
  have h0 := copyS_new h2 h3
  exact ⟨h0, by rw [(copyS_ok Wf.nil h2 h3 h0).2.2, h4]⟩
end Go.Sp
end
section
namespace Go.Sp
open Go.Proofs
def ones : Nat → List Int
 | 0 => []
 | n + 1 => ones n ++ [(n : Int) + 1]
theorem ones_len (n : Nat) : (ones n).length = n := by induction n with
 | zero => rfl
 | succ n ih => simp [ones, ih]
theorem ones_mem {n : Nat} {x : Int} : x ∈ ones n ↔ 1 ≤ x ∧ x ≤ n := by
 induction n with
 | zero => simp [ones]; omega
 | succ n ih => simp only [ones, List.mem_append, ih, List.mem_singleton]; omega
theorem ones_pos {n : Nat} : ∀ {x : Int}, 1 ≤ x → x ≤ n → posOf (ones n) x = (x - 1).toNat := by
 induction n with
 | zero => intro x h1 h2; omega
 | succ n ih =>
  intro x h1 h2
  rw [ones]
  by_cases h : x ≤ n
  ·rw [posOf_app (ones_mem.2 ⟨h1, h⟩), ih h1 h]
  ·have : x = (n : Int) + 1 := by omega
   subst this
   rw [posOf_new (by rw [ones_mem]; omega), ones_len]; omega
theorem ones_get {n : Nat} {j : Nat} (h : j < (ones n).length) : (ones n)[j] = (j : Int) + 1 := by
 induction n with
 | zero => simp [ones] at h
 | succ n ih =>
  simp only [ones]
  rw [List.getElem_append]
  split
  ·exact ih _
  ·rename_i h1
   have : j = n := by rw [ones_len] at h h1; omega
   subst this; simp
def _root_.Go.Proofs.Fld.said (x : Raw) : Fld → List UInt8
 | .from_ => varint x.frm | .to_ => varint x.to | .num => varint x.num | .text => textBytes ⟨x.text.toArray⟩ | .fst => varint x.a | .snd => varint x.b
theorem rNum_get {bs : List UInt8} {r : Rd} (h : (rNum bs r).2.err = 0) : r.err = 0 ∧ bs.drop r.at_ = varint (rNum bs r).1 ++ bs.drop (rNum bs r).2.at_ ∧ (rNum bs r).1 < 18446744073709551616 := by
 unfold rNum at h ⊢
 by_cases he : r.err = 0
 ·rw [if_pos he] at h ⊢
  cases hr : rdNum 0 0 (bs.drop r.at_) with
  | error x =>
   rw [hr] at h
   simp only at h
   exfalso
   have : ∀ (l : List UInt8) (i n x : Nat), rdNum i n l = .error x → x ≠ 0 := by
    intro l
    induction l with
    | nil => intro i n x h; simp [rdNum] at h; omega
    | cons c l ih =>
     intro i n x h
     rw [rdNum_cons] at h
     split at h
     ·cases h; decide
     ·split at h
      ·split at h
       ·cases h; decide
       ·cases h
      ·exact ih _ _ _ h
   exact this _ _ _ _ hr h
  | ok p =>
   obtain ⟨n, k⟩ := p
   obtain ⟨c, h1, h2, h3⟩ := rdNum_inv hr
   refine ⟨he, ?_, h3⟩
   simp only
   rw [← List.drop_drop, h1, h2, List.drop_left]
 ·rw [if_neg he] at h; exact absurd h he
theorem rText_get {bs : List UInt8} {r : Rd} (h : (rText bs 64 r).2.err = 0) : r.err = 0 ∧ bs.drop r.at_ = textBytes ⟨(rText bs 64 r).1.toArray⟩ ++ bs.drop (rText bs 64 r).2.at_ := by
 have hn := @rNum_get bs r
 unfold rNum at hn
 unfold rText at h ⊢
 by_cases he : r.err = 0
 ·rw [if_pos he] at h hn ⊢
  cases hr : rdNum 0 0 (bs.drop r.at_) with
  | error x =>
   rw [hr] at h hn
   simp only at h hn
   exact absurd (hn h).2.1 (by
    have := (hn h).2.1
    intro _
    have hl := congrArg List.length this
    rw [List.length_append, varint_lt (by omega)] at hl
    simp at hl)
  | ok p =>
   obtain ⟨n, k⟩ := p
   rw [hr] at h hn
   simp only at h hn ⊢
   obtain ⟨c, h1, h2, h3⟩ := rdNum_inv hr
   split at h
   ·simp at h
   ·rename_i h64
    rw [if_neg h64]
    split at h
    ·simp at h
    ·rename_i hlen
     rw [if_neg hlen]
     refine ⟨he, ?_⟩
     simp only
     have hd : bs.drop (r.at_ + k) = c := by rw [← List.drop_drop, h1, h2, List.drop_left]
     have hcl : n ≤ c.length := by rw [← hd, List.length_drop]; omega
     have hs : (ByteArray.mk (c.take n).toArray).size = n := by show (c.take n).toArray.size = n; simp; omega
     have hd2 : bs.drop (r.at_ + k + n) = c.drop n := by rw [← List.drop_drop, hd]
     rw [hd, hd2]
     unfold textBytes
     rw [hs, h1, List.append_assoc]
     congr 1
     simp
 ·rw [if_neg he] at h; exact absurd h he
theorem fld_get {bs : List UInt8} {r : Rd} {x : Raw} (f : Fld) (h : (f.rd bs r).err = 0) : r.err = 0 ∧ bs.drop r.at_ = f.said (f.raw bs r x) ++ bs.drop (f.rd bs r).at_ := by
 cases f
 ·exact ⟨(rNum_get h).1, (rNum_get h).2.1⟩
 ·exact ⟨(rNum_get h).1, (rNum_get h).2.1⟩
 ·exact ⟨(rNum_get h).1, (rNum_get h).2.1⟩
 ·exact rText_get h
 ·exact ⟨(rNum_get h).1, (rNum_get h).2.1⟩
 ·exact ⟨(rNum_get h).1, (rNum_get h).2.1⟩
theorem said_keep {bs : List UInt8} {r : Rd} {x : Raw} {f g : Fld} (h : f ≠ g) : f.said (g.raw bs r x) = f.said x := by
 cases f <;> cases g <;> first | rfl | exact absurd rfl h
theorem rdFlds_keep {bs : List UInt8} {f : Fld} : ∀ (fs : List Fld) (x : Raw) (r : Rd), f ∉ fs → f.said (rdFlds bs fs (x, r)).1 = f.said x := by
 intro fs
 induction fs with
 | nil => intro x r _; rfl
 | cons g fs ih =>
  intro x r h
  simp only [List.mem_cons, not_or] at h
  rw [rdFlds, ih _ _ h.2, said_keep h.1]
theorem rdFlds_get {bs : List UInt8} : ∀ (fs : List Fld) (x : Raw) (r : Rd), fs.Nodup → (rdFlds bs fs (x, r)).2.err = 0 → r.err = 0 ∧ bs.drop r.at_ = fs.flatMap (fun f => f.said (rdFlds bs fs (x, r)).1) ++ bs.drop (rdFlds bs fs (x, r)).2.at_ := by
 intro fs
 induction fs with
 | nil => intro x r _ h; exact ⟨h, rfl⟩
 | cons f fs ih =>
  intro x r hn h
  rw [rdFlds] at h ⊢
  rw [List.nodup_cons] at hn
  obtain ⟨h1, h2⟩ := ih _ _ hn.2 h
  obtain ⟨h3, h4⟩ := fld_get (x := x) f h1
  refine ⟨h3, ?_⟩
  rw [List.flatMap_cons, h4, h2, rdFlds_keep fs _ _ hn.1, List.append_assoc]
theorem flds_nodup (k : Int) : (flds k).Nodup := by
 unfold flds; repeat' split
 all_goals decide
theorem num_raw {bs : List UInt8} : ∀ (fs : List Fld) (x : Raw) (r : Rd), (x.num < 18446744073709551616) → (rdFlds bs fs (x, r)).1.num < 18446744073709551616 := by
 intro fs
 induction fs with
 | nil => intro x r h; exact h
 | cons f fs ih =>
  intro x r h
  rw [rdFlds]
  refine ih _ _ ?_
  cases f <;> try exact h
  simp only [Fld.raw]
  by_cases he : (rNum bs r).2.err = 0
  ·exact (rNum_get he).2.2
  ·unfold rNum at he ⊢
   split
   ·rename_i h1
    rw [if_pos h1] at he
    split
    ·rename_i hk
     rw [hk] at he
     exact absurd rfl he
    ·simp
   ·simp
theorem flds_kids {bs : List UInt8} {k : Int} (h1 : 1 ≤ k) (h9 : k ≤ 9) (r : Rd) : (rdFlds bs (flds k) (noRaw, r)).1.kids = (shapeOf k).kids.toNat ∧ (Fld.fst ∈ flds k ↔ 0 < (shapeOf k).kids) ∧ (Fld.snd ∈ flds k ↔ 1 < (shapeOf k).kids) := by
 have : k = 1 ∨ k = 2 ∨ k = 3 ∨ k = 4 ∨ k = 5 ∨ k = 6 ∨ k = 7 ∨ k = 8 ∨ k = 9 := by omega
 rcases this with rfl | rfl | rfl | rfl | rfl | rfl | rfl | rfl | rfl <;> simp [flds, rdFlds, Fld.raw, noRaw, shapeOf]
theorem rdStep_get {bs : List UInt8} {q : Pool} {r : Rd} (hW : Wf q) (hN : Nums q) (hl : r.at_ < bs.length) (he : r.err = 0) (h0 : (rdStep bs q r).2.1 = 0) :
  Wf (rdStep bs q r).1 ∧ Nums (rdStep bs q r).1 ∧ (rdStep bs q r).1.length = q.length + 1 ∧ (∀ v, inP q v = true → inP (rdStep bs q r).1 v = true ∧ treeOf (rdStep bs q r).1 v = treeOf q v) ∧
  bs.drop r.at_ = nodeText (rdStep bs q r).1 (ones q.length) ((q.length : Int) + 1) ++ bs.drop (rdStep bs q r).2.2.at_ := by
 rw [rdStep_eq bs q r hl he] at h0 ⊢
 have hcons : bs.drop r.at_ = bs[r.at_] :: bs.drop (r.at_ + 1) := List.drop_eq_getElem_cons hl
 have hb8 : UInt8.ofNat bs[r.at_].toNat = bs[r.at_] := by simp
 generalize bs[r.at_] = c at *
 split at h0
 ·rename_i hk
  rw [if_pos hk]
  have hk1 : 1 ≤ c.toNat ∧ c.toNat ≤ 9 := by unfold isKindN at hk; simpa using hk
  have hfl := @rdFlds_get bs (flds c.toNat) noRaw ⟨r.at_ + 1, 0, r.spot⟩ (flds_nodup _)
  have hnum := @num_raw bs (flds c.toNat) noRaw ⟨r.at_ + 1, 0, r.spot⟩ (by decide)
  obtain ⟨hkd, hk2, hk3⟩ := @flds_kids bs (c.toNat : Int) (by omega) (by omega) ⟨r.at_ + 1, 0, r.spot⟩
  generalize rdFlds bs (flds c.toNat) (noRaw, ⟨r.at_ + 1, 0, r.spot⟩) = s at *
  obtain ⟨x, r'⟩ := s
  simp only at *
  obtain ⟨e1, e2, e3, e4, e5⟩ := rdIn_zero h0
  simp only at e1 e2 e3 e4 e5
  rw [e5]
  simp only
  obtain ⟨_, hfl⟩ := hfl e1
  obtain ⟨m1, m2, m3⟩ := make_node e4
  have hw := make_wf hW (x.node c.toNat)
  have hnn : Nums (make q (x.node c.toNat)).2.2 := hN.make (by simp only [Raw.node, isNum]; omega)
  have hmk : (make q (x.node c.toNat)).1 = (q.length : Int) + 1 ∧ (make q (x.node c.toNat)).2.2.length = q.length + 1 := by
   have hc := m3
   unfold make at e4 ⊢
   simp only [e3] at e4 ⊢
   rw [if_neg (by rw [hc]; simp)] at e4 ⊢
   split at e4
   ·simp at e4
   ·rename_i hf; rw [if_neg hf]; exact ⟨rfl, by simp⟩
  obtain ⟨M, eM⟩ := make_app q (x.node c.toNat)
  refine ⟨hw, hnn, hmk.2, fun v hv => ?_, ?_⟩
  ·rw [eM] at hw ⊢; exact ⟨inP_app hv, treeOf_app hw _ v rfl hv⟩
  ·rw [hmk.1] at m2
   rw [hcons, hfl]
   unfold nodeText
   rw [m2]
   have hkk : (x.node c.toNat).kind = c.toNat := rfl
   rw [hkk, Int.toNat_natCast, hb8, List.cons_append]
   congr 1
   congr 1
   have hne : nodeErr c.toNat q.length x r'.err = 0 := e2
   unfold nodeErr at hne
   rw [if_neg (by omega)] at hne
   split at hne
   ·simp at hne
   ·split at hne
    ·simp at hne
    ·rename_i href
     have cg : ∀ (fs : List Fld) (g1 g2 : Fld → List UInt8), (∀ f ∈ fs, g1 f = g2 f) → fs.flatMap g1 = fs.flatMap g2 := by
      intro fs g1 g2
      induction fs with
      | nil => intro _; rfl
      | cons f fs ihf => intro hh; rw [List.flatMap_cons, List.flatMap_cons, hh f (by simp), ihf (fun x hx => hh x (List.mem_cons_of_mem _ hx))]
     refine cg _ _ _ (fun f hf => ?_)
     cases f
     ·simp [Fld.said, Fld.bytes, Raw.node]
     ·simp [Fld.said, Fld.bytes, Raw.node]
     ·simp [Fld.said, Fld.bytes, Raw.node]
     ·simp [Fld.said, Fld.bytes, Raw.node]
     ·have h2 := hk2.1 hf
      have hx : 0 < x.kids := by omega
      have ha : x.a < q.length := by omega
      simp only [Fld.said, Fld.bytes, Raw.node, if_pos hx]
      rw [ones_pos (by omega) (by omega)]
      congr 1; omega
     ·have h2 := hk3.1 hf
      have hx : 1 < x.kids := by omega
      have ha : x.b < q.length := by omega
      simp only [Fld.said, Fld.bytes, Raw.node, if_pos hx]
      rw [ones_pos (by omega) (by omega)]
      congr 1; omega
 ·simp at h0
theorem rdGo_get {bs : List UInt8} : ∀ (fuel : Nat) (q : Pool) (r : Rd) (ps : List Nat) (q' : Pool), Wf q → Nums q → ps.length = q.length → r.err = 0 → r.at_ ≤ bs.length → bs.length - r.at_ ≤ fuel → bs.take r.at_ = textFrom q [] (ones q.length) → (rdGo bs fuel q r ps).1 = some q' →
  Wf q' ∧ Nums q' ∧ q.length ≤ q'.length ∧ bs = textFrom q' [] (ones q'.length) ∧ q'.length ≤ inRow 0 (subs q' q'.length) := by
 have hend : ∀ (q : Pool) (ps : List Nat) (q' : Pool), ps.length = q.length → (rdEnd q ps).1 = some q' → q = q' ∧ q.length ≤ inRow 0 (subs q q.length) := by
  intro q ps q' hp h
  unfold rdEnd at h
  simp only at h
  split at h
  ·cases h
  ·cases h; exact ⟨rfl, by omega⟩
 intro fuel
 induction fuel with
 | zero =>
  intro q r ps q' hW hN hp he hat hf ht h
  obtain ⟨rfl, h2⟩ := hend q ps q' hp h
  rw [List.take_of_length_le (by omega)] at ht
  exact ⟨hW, hN, Nat.le_refl _, ht, h2⟩
 | succ fuel ih =>
  intro q r ps q' hW hN hp he hat hf ht h
  by_cases hl : r.at_ < bs.length
  ·rw [rdGo, if_pos hl] at h
   by_cases h0 : (rdStep bs q r).2.1 = 0
   ·rw [if_neg (by simpa using h0)] at h
    obtain ⟨s1, s2, s3, s4, s5⟩ := rdStep_get hW hN hl he h0
    obtain ⟨a1, a2, a3⟩ := rdStep_at bs q r hl he h0
    have htake : bs.take (rdStep bs q r).2.2.at_ = textFrom (rdStep bs q r).1 [] (ones (rdStep bs q r).1.length) := by
     have hold : ∀ z ∈ ones q.length, inP q z = true := fun z hz => inP_iff.2 (ones_mem.1 hz)
     have hsame : textFrom q [] (ones q.length) = textFrom (rdStep bs q r).1 [] (ones q.length) :=
      textFrom_tree hW s1 _ _ [] [] hold (fun z hz => (s4 z (hold z hz)).1) (by simp) (by simp) (List.map_congr_left (fun z hz => ((s4 z (hold z hz)).2).symm)) rfl
     rw [s3, ones, textFrom_snoc, List.nil_append, ← hsame, ← ht]
     have hsplit : bs.take (rdStep bs q r).2.2.at_ = bs.take r.at_ ++ (bs.drop r.at_).take ((rdStep bs q r).2.2.at_ - r.at_) := by
      rw [← List.take_add]; congr 1; omega
     rw [hsplit]
     congr 1
     have hlen := congrArg List.length s5
     rw [List.length_drop, List.length_append, List.length_drop] at hlen
     rw [s5, List.take_append_of_le_length (by omega), List.take_of_length_le (by omega)]
    obtain ⟨g1, g2, g3, g4, g5⟩ := ih _ _ _ q' s1 s2 (by simp [hp, s3]) a3 a2 (by omega) htake h
    exact ⟨g1, g2, by omega, g4, g5⟩
   ·rw [if_pos h0] at h; cases h
  ·rw [rdGo_end hl] at h
   obtain ⟨rfl, h2⟩ := hend q ps q' hp h
   rw [List.take_of_length_le (by omega)] at ht
   exact ⟨hW, hN, Nat.le_refl _, ht, h2⟩
theorem inRow_get : ∀ (l : List Int) (i m : Nat), i + m ≤ inRow i l → m ≤ l.length ∧ ∀ j (h : j < l.length), j < m → l[j] = ((i + j : Nat) : Int) + 1 := by
 intro l
 induction l with
 | nil => intro i m h; rw [inRow] at h; exact ⟨by simp; omega, fun j h => (by simp at h)⟩
 | cons s l ih =>
  intro i m h
  rw [inRow] at h
  split at h
  ·rename_i hs
   cases m with
   | zero => exact ⟨by simp, fun j _ hj => (by omega)⟩
   | succ m =>
    obtain ⟨h1, h2⟩ := ih (i + 1) m (by omega)
    refine ⟨by rw [List.length_cons]; omega, fun j hj hjm => ?_⟩
    cases j with
    | zero => simp [hs]
    | succ j => simp only [List.getElem_cons_succ]; rw [h2 j (by simpa using hj) (by omega)]; congr 2; omega
  ·exact ⟨by simp; omega, fun j _ hj => by omega⟩
theorem rdText_get {bs : List UInt8} {q : Pool} (h : (rdText bs).1 = some q) : Wf q ∧ Nums q ∧ inP q q.length = true ∧ textOf q q.length = bs ∧ bs.length ≤ 4096 := by
 unfold rdText at h
 split at h
 ·cases h
 ·split at h
  ·cases h
  ·rename_i h1 h2
   obtain ⟨g1, g2, _, g4, g5⟩ := rdGo_get bs.length [] ⟨0, 0, 0⟩ [] q Wf.nil Nums.nil rfl rfl (Nat.zero_le _) (Nat.le_refl _) (by simp [ones, textFrom]) h
   have hpos : 0 < q.length := by
    rcases Nat.eq_zero_or_pos q.length with e | e
    ·rw [e, ones, textFrom] at g4; rw [g4] at h2; simp at h2
    ·exact e
   have hin : inP q q.length = true := inP_iff.2 ⟨by omega, by omega⟩
   obtain ⟨k1, k2⟩ := inRow_get (subs q q.length) 0 q.length (by omega)
   have hfew := subs_few g1 q.length
   have hs : subs q q.length = ones q.length := by
    refine List.ext_getElem (by rw [ones_len]; omega) (fun j h1 h2 => ?_)
    rw [k2 j h1 (by rw [ones_len] at h2; exact h2), ones_get]; simp
   refine ⟨g1, g2, hin, ?_, by omega⟩
   unfold textOf; rw [hs]; exact g4.symm
theorem copyGo_nums {Lq : Pool} (hq : Nums Lq) : ∀ (l : List Int) (L : Pool) (own : Int → Int), Nums L → Nums (copyGo Lq l L own).1 := by
 intro l
 induction l with
 | nil => intro L own h; exact h
 | cons z l ih =>
  intro L own h
  obtain ⟨x, e, L', hm⟩ : ∃ x e L', make L { nodeOf Lq z with a := own (nodeOf Lq z).a, b := own (nodeOf Lq z).b } = (x, e, L') := ⟨_, _, _, rfl⟩
  have h2 := h.make (n := { nodeOf Lq z with a := own (nodeOf Lq z).a, b := own (nodeOf Lq z).b }) (hq.node z)
  rw [copyGo_cons Lq z l L own rfl hm]
  rw [hm] at h2
  split
  ·exact h
  ·exact ih _ _ h2
theorem copyS_nums {L Lq : Pool} (h : Nums L) (hq : Nums Lq) (t : Int) : Nums (copyS L Lq t).2.2 := by
 unfold copyS; split
 ·simp only; split
  ·exact h
  ·exact copyGo_nums hq _ _ _ h
 ·exact h
theorem decS_nums {L : Pool} (h : Nums L) (bs : List UInt8) : Nums (decS L bs).2.2.2 := by
 unfold decS
 cases hq : (rdText bs).1 with
 | none => exact h
 | some q => exact copyS_nums h (rdText_get hq).2.1 _
theorem decS_wf {L : Pool} (h : Wf L) (bs : List UInt8) : Wf (decS L bs).2.2.2 := by
 unfold decS
 cases hq : (rdText bs).1 with
 | none => exact h
 | some q =>
  obtain ⟨g1, _, g3, _⟩ := rdText_get hq
  by_cases h0 : (copyS L q q.length).2.1 = 0
  ·exact (copyS_ok h g1 g3 h0).1
  ·simp only; rw [((copyS_err h g1 _).resolve_left h0).2]; exact h
theorem rdText_err {bs : List UInt8} (h : (rdText bs).1 = none) : (rdText bs).2.1 ≠ 0 := by
 have hend : ∀ (q : Pool) (ps : List Nat), (rdEnd q ps).1 = none → (rdEnd q ps).2.1 ≠ 0 := by
  intro q ps h
  unfold rdEnd at h ⊢
  simp only at h ⊢
  split at h
  ·rename_i hh; rw [dif_pos hh]; show (73 : Int) ≠ 0; decide
  ·cases h
 have hgo : ∀ (bs : List UInt8) (fuel : Nat) (q : Pool) (r : Rd) (ps : List Nat), (rdGo bs fuel q r ps).1 = none → (rdGo bs fuel q r ps).2.1 ≠ 0 := by
  intro bs fuel
  induction fuel with
  | zero => intro q r ps h; exact hend _ _ h
  | succ fuel ih =>
   intro q r ps h
   rw [rdGo] at h ⊢
   split at h
   ·rename_i h1
    rw [if_pos h1]
    split at h
    ·rename_i h2; rw [if_pos h2]; exact h2
    ·rename_i h2; rw [if_neg h2]; exact ih _ _ _ h
   ·rename_i h1; rw [if_neg h1]; exact hend _ _ h
 unfold rdText at h ⊢
 split at h
 ·rename_i h1; rw [if_pos h1]; decide
 ·rename_i h1
  rw [if_neg h1]
  split at h
  ·rename_i h2; rw [if_pos h2]; decide
  ·rename_i h2; rw [if_neg h2]; exact hgo _ _ _ _ _ h
theorem rdText_ok {bs : List UInt8} {q : Pool} (h : (rdText bs).1 = some q) : (rdText bs).2.1 = 0 := by
 have hend : ∀ (q : Pool) (ps : List Nat) (x : Pool), (rdEnd q ps).1 = some x → (rdEnd q ps).2.1 = 0 := by
  intro q ps x h
  unfold rdEnd at h ⊢
  simp only at h ⊢
  split at h
  ·cases h
  ·rename_i hh; rw [dif_neg hh]
 have hgo : ∀ (fuel : Nat) (q : Pool) (r : Rd) (ps : List Nat) (x : Pool), (rdGo bs fuel q r ps).1 = some x → (rdGo bs fuel q r ps).2.1 = 0 := by
  intro fuel
  induction fuel with
  | zero => intro q r ps x h; exact hend _ _ _ h
  | succ fuel ih =>
   intro q r ps x h
   rw [rdGo] at h ⊢
   split at h
   ·rename_i h1
    rw [if_pos h1]
    split at h
    ·cases h
    ·rename_i h2; rw [if_neg h2]; exact ih _ _ _ _ h
   ·rename_i h1; rw [if_neg h1]; exact hend _ _ _ h
 unfold rdText at h ⊢
 split at h
 ·cases h
 ·rename_i h1
  rw [if_neg h1]
  split at h
  ·cases h
  ·rename_i h2; rw [if_neg h2]; exact hgo _ _ _ _ _ h
theorem enc_dec {L : Pool} (hW : Wf L) {bs : List UInt8} (h0 : (decS L bs).2.1 = 0) : Wf (decS L bs).2.2.2 ∧ inP (decS L bs).2.2.2 (decS L bs).1 = true ∧ textOf (decS L bs).2.2.2 (decS L bs).1 = bs ∧ bs.length ≤ 4096 := by
 cases hq : (rdText bs).1 with
 | none =>
  unfold decS at h0; rw [hq] at h0
  exact absurd h0 (rdText_err hq)
 | some q =>
  obtain ⟨g1, g2, g3, g4, g5⟩ := rdText_get hq
  unfold decS at h0 ⊢
  rw [hq] at h0 ⊢
  simp only at h0 ⊢
  obtain ⟨c1, c2, c3⟩ := copyS_ok hW g1 g3 h0
  exact ⟨c1, c2, by rw [textOf_tree c1 g1 c2 g3 c3, g4], g5⟩
end Go.Sp
end
section
open Go Go.SE
namespace Go.Proofs
attribute [local irreducible] Calls CallsD
def Raw.cells (k : Nat) (x : Raw) : List Value := [.int .i64 k, .int .i64 0, .int .i64 0, .int .u64 x.num, .string ⟨x.text.toArray⟩, .int .i64 0, .int .i64 0, .int .u64 x.frm, .int .u64 x.to, .int .u64 x.a, .int .u64 x.b, .int .i64 x.kids]
theorem upd_cells (bs : List UInt8) (r : Rd) (k : Nat) (x : Raw) (f : Fld) : f.upd bs r (x.cells k) = (f.raw bs r x).cells k := by cases f <;> rfl
theorem rdFlds_app (bs : List UInt8) : ∀ (l1 l2 : List Fld) (s : Raw × Rd), rdFlds bs (l1 ++ l2) s = rdFlds bs l2 (rdFlds bs l1 s) := by
 intro l1
 induction l1 with
 | nil => intro l2 s; rfl
 | cons f l1 ih => intro l2 s; obtain ⟨x, r⟩ := s; rw [List.cons_append, rdFlds, rdFlds, ih]
theorem rdFlds_snoc (bs : List UInt8) (fs : List Fld) (j : Nat) (hj : j < fs.length) (s : Raw × Rd) : rdFlds bs (fs.take (j + 1)) s = (fs[j].raw bs (rdFlds bs (fs.take j) s).2 (rdFlds bs (fs.take j) s).1, fs[j].rd bs (rdFlds bs (fs.take j) s).2) := by
 rw [List.take_succ_eq_append_getElem hj, rdFlds_app]
 obtain ⟨x, r⟩ := rdFlds bs (fs.take j) s
 rfl
theorem call_get (f : Fld) : ∀ args w, (callFunc f.get args).run Try.prog w = .ok (.enter f.get args) w := by
 cases f
 ·exact Try.call168
 ·exact Try.call171
 ·exact Try.call173
 ·exact Try.call176
 ·exact Try.call179
 ·exact Try.call181
structure StAt (w : World) (q a : Addr) (s : Sl) (bs : List UInt8) (L : Sp.Pool) (r : Rd) (m : Nat) (S FP F : NP) : Prop where
 pool : PoolAt w q L FP
 rd : RdS S w a s bs r
 kinds : Kinds w m F
 lS : ∀ b, S b → b < w.heap.size
 la : a.block < w.heap.size
 dP : ∀ b, FP b → b ≠ a.block ∧ ¬ S b ∧ ¬ F b ∧ b ≠ m
 dF : ∀ b, F b → b ≠ a.block ∧ ¬ S b
 dm : m ≠ a.block ∧ ¬ S m
theorem StAt.ext {w w' : World} {q a : Addr} {s : Sl} {bs : List UInt8} {L : Sp.Pool} {r : Rd} {m : Nat} {S FP F G : NP} (h : StAt w q a s bs L r m S FP F) (E : Ext G w w') (hG : ∀ b, b < w.heap.size → ¬ G b) : StAt w' q a s bs L r m S FP F :=
 ⟨h.pool.ext E (fun b hb => hG b (h.pool.lt hb)), h.rd.ext E (fun b hb => hG b (h.lS b hb)) (hG _ h.la), h.kinds.ext E (fun b hb => hG b (hb.elim (h.kinds.lt b) (fun e => e ▸ h.kinds.mlt))), fun b hb => Nat.lt_of_lt_of_le (h.lS b hb) E.size, Nat.lt_of_lt_of_le h.la E.size, h.dP, h.dF, h.dm⟩
theorem StAt.pure {w w' : World} {q a : Addr} {s : Sl} {bs : List UInt8} {L : Sp.Pool} {r : Rd} {m : Nat} {S FP F : NP} (h : StAt w q a s bs L r m S FP F) (E : Pure w w') : StAt w' q a s bs L r m S FP F := h.ext E (fun _ _ h => h)
theorem wrap_id {n : Nat} (h : n < 9223372036854775808) : IntKind.i64.wrap (n : Int) = (n : Int) := IntWalk.i64_in _ (by omega)
theorem wire_name (n : Nat) : s_E (n : Int) = if 2147483647 < n then -1 else (n : Int) := by
 unfold s_E
 by_cases h : 2147483647 < n
 ·rw [if_pos h, show decide ((n : Int) > 2147483647) = true by simp; omega]; rfl
 ·rw [if_neg h, show decide ((n : Int) > 2147483647) = false by simp; omega]; exact wrap_id (by omega)
theorem wire_names (k f t : Nat) (u : Int) (x : ByteArray) (a b : Int) : s_G (k : Int) (s_E (f : Int)) (s_E (t : Int)) u x a b = if 16 ≤ f ∨ 16 ≤ t ∨ ((k = 8 ∨ k = 9) ∧ f = t) then 50 else 0 := by
 unfold s_G
 rw [wire_name, wire_name]
 have key : ((((decide ((if 2147483647 < f then -1 else (f : Int)) < 0) || decide ((if 2147483647 < f then -1 else (f : Int)) ≥ 16)) || decide ((if 2147483647 < t then -1 else (t : Int)) < 0)) || decide ((if 2147483647 < t then -1 else (t : Int)) ≥ 16)) || ((((k : Int) == 8) || ((k : Int) == 9)) && ((if 2147483647 < f then -1 else (f : Int)) == (if 2147483647 < t then -1 else (t : Int))))) = decide (16 ≤ f ∨ 16 ≤ t ∨ ((k = 8 ∨ k = 9) ∧ f = t)) := by
  rw [Bool.eq_iff_iff]
  simp only [Bool.or_eq_true, Bool.and_eq_true, decide_eq_true_eq, beq_iff_eq]
  by_cases h1 : 2147483647 < f
  ·rw [if_pos h1]
   exact ⟨fun _ => .inl (by omega), fun _ => .inl (.inl (.inl (.inl (by omega))))⟩
  ·by_cases h2 : 2147483647 < t
   ·rw [if_pos h2]
    exact ⟨fun _ => .inr (.inl (by omega)), fun _ => .inl (.inl (.inr (by omega)))⟩
   ·rw [if_neg h1, if_neg h2]; omega
 rw [key]
 by_cases h : 16 ≤ f ∨ 16 ≤ t ∨ ((k = 8 ∨ k = 9) ∧ f = t)
 ·rw [decide_eq_true h, if_pos h]; rfl
 ·rw [decide_eq_false h, if_neg h]; rfl
theorem row_left {w : World} {p : Addr} {n : Sp.Node} {cs : List Value} {T : TypeId} (h : Box w p (nrow n ++ cs) T) : Row w p (nrow n) := fun i hi => by
 have := h.row i (by rw [List.length_append]; omega)
 rw [List.getElem?_append_left hi] at this; exact this
theorem c_sub4 (q a : Addr) (s : Sl) (bs : List UInt8) (r : Rd) (m : Nat) {S FP F : NP} {L : Sp.Pool} (p : Addr) (n : Sp.Node) (cs : List Value) {w : World} (h : StAt w q a s bs L r m S FP F) (hok : Sp.Ok L) (hB : Box w p (nrow n ++ cs) 227) (hp : ¬ FP p.block) (K : Int → WP)
  (hK : ∀ x w', x = (if (Sp.find L n).isSome = true then 72 else (Sp.make L n).2.1) → (∃ F', PoolAt w' q (if (Sp.find L n).isSome = true then L else (Sp.make L n).2.2) F' ∧ RdS S w' a s bs r ∧ Ext FP w w' ∧ ∀ b, F' b → FP b ∨ w.heap.size ≤ b) → K x w') :
  m_C_j4 (some q) p None w K := by
 unfold m_C_j4
 refine ⟨n.kind, n.frm, n.to, n.num, n.text, n.a, n.b, row_left hB, ?_⟩
 refine (c_Has q n w h.pool hok).mono ?_
 rintro _ w1 ⟨x, ok, rfl, hf, E1⟩
 refine ⟨_, _, rfl, E1.keptP, fun hok1 => ?_, fun hok1 => ?_⟩
 ·have : (Sp.find L n).isSome = true := by
   cases hn : Sp.find L n with
   | some i => rfl
   | none => rw [hn] at hf; simp only at hf; rw [hf.2] at hok1; cases hok1
  rw [if_pos this, if_pos this] at hK
  exact hK _ _ rfl ⟨FP, h.pool.pure E1, h.rd.pure E1, Ext.pure E1, fun b hb => .inl hb⟩
 ·have : ¬ (Sp.find L n).isSome = true := by
   cases hn : Sp.find L n with
   | some i => rw [hn] at hf; simp only at hf; rw [hf.2] at hok1; cases hok1
   | none => simp
  rw [if_neg this, if_neg this] at hK
  refine ⟨n.kind, n.frm, n.to, n.num, n.text, n.a, n.b, row_left (hB.pure E1), ?_⟩
  refine (c_Make q n.kind n.frm n.to n.num n.text n.a n.b w1 (h.pool.pure E1) hok).mono ?_
  rintro _ w2 ⟨x1, x2, rfl, he, F', hP, E2, hF'⟩
  have he2 := congrArg Prod.snd he
  simp only at he2
  refine ⟨x1, x2, rfl, E2.kept (fun b hb => hb.elim), hK _ _ he2 ⟨F', hP, (h.rd.pure E1).ext E2 (fun b hb hh => (h.dP b hh).2.1 hb) (fun hh => (h.dP _ hh).1 rfl), (Ext.pure E1).trans E2, fun b hb => (hF' b hb).elim .inl (fun hb => .inr (by have := E1.size; omega))⟩⟩
theorem raw_row (k : Nat) (x : Raw) : (((x.cells k).set 1 (.int .i64 (s_E x.frm))).set 2 (.int .i64 (s_E x.to))) = nrow ⟨k, s_E x.frm, s_E x.to, x.num, ⟨x.text.toArray⟩, 0, 0⟩ ++ [.int .u64 x.frm, .int .u64 x.to, .int .u64 x.a, .int .u64 x.b, .int .i64 x.kids] := rfl
theorem raw_rowA (n : Sp.Node) (cs : List Value) (v : Int) : (nrow n ++ cs).set 5 (.int .i64 v) = nrow { n with a := v } ++ cs := rfl
theorem raw_rowB (n : Sp.Node) (cs : List Value) (v : Int) : (nrow n ++ cs).set 6 (.int .i64 v) = nrow { n with b := v } ++ cs := rfl
theorem c_sub3 (q a : Addr) (s : Sl) (bs : List UInt8) (r : Rd) (m : Nat) {S FP F : NP} {L : Sp.Pool} (p : Addr) (k : Nat) (x : Raw) {w : World} (h : StAt w q a s bs L r m S FP F) (hok : Sp.Ok L)
  (h1 : x.frm < 16) (h2 : x.to < 16) (ha : 0 < x.kids → x.a < L.length) (hb : 1 < x.kids → x.b < L.length)
  (hB : Box w p (nrow ⟨k, s_E x.frm, s_E x.to, x.num, ⟨x.text.toArray⟩, 0, 0⟩ ++ [.int .u64 x.frm, .int .u64 x.to, .int .u64 x.a, .int .u64 x.b, .int .i64 x.kids]) 227) (hpS : p.block ≠ a.block ∧ ¬ S p.block ∧ ¬ FP p.block ∧ ¬ F p.block ∧ p.block ≠ m) (K : Int → WP)
  (hK : ∀ y w', y = (if (Sp.find L (x.node k)).isSome = true then 72 else (Sp.make L (x.node k)).2.1) → (∃ F', PoolAt w' q (if (Sp.find L (x.node k)).isSome = true then L else (Sp.make L (x.node k)).2.2) F' ∧ RdS S w' a s bs r ∧ Ext (fun b => FP b ∨ b = p.block) w w' ∧ ∀ b, F' b → FP b ∨ w.heap.size ≤ b) → K y w') :
  m_C_j2 (some q) p false None w K := by
 have hok2 := hok.few
 have fs : s_E (x.frm : Int) = (x.frm : Int) := by rw [wire_name, if_neg (by omega)]
 have ts : s_E (x.to : Int) = (x.to : Int) := by rw [wire_name, if_neg (by omega)]
 rw [fs, ts] at hB
 have st5 : ∀ {w w' : World} {i : Nat} {v : Value}, StAt w q a s bs L r m S FP F → w' = w.setCell (p.add i) v → StAt w' q a s bs L r m S FP F ∧ Ext (· = p.block) w w' := fun {w w' i v} h e => by
  have E : Ext (· = p.block) w w' := by rw [e]; exact ext_set
  refine ⟨⟨h.pool.ext E (fun b hb e => hpS.2.2.1 (e ▸ hb)), h.rd.ext E (fun b hb e => hpS.2.1 (e ▸ hb)) (fun e => hpS.1 e.symm), h.kinds.ext E (fun b hb e => hb.elim (fun hb => hpS.2.2.2.1 (e ▸ hb)) (fun hb => hpS.2.2.2.2 (e.symm.trans hb))), fun b hb => Nat.lt_of_lt_of_le (h.lS b hb) E.size, Nat.lt_of_lt_of_le h.la E.size, h.dP, h.dF, h.dm⟩, E⟩
 have wr : ∀ n : Nat, n < L.length → IntKind.i64.wrap (IntKind.u64.wrap ((n : Int) + 1)) = (n : Int) + 1 := fun n hn => by
  rw [show (n : Int) + 1 = ((n + 1 : Nat) : Int) by omega, wrap_u64 (by omega), wrap_id (by omega)]
 have fin : ∀ (va vb : Int) (w1 : World), StAt w1 q a s bs L r m S FP F → Box w1 p (nrow ⟨k, x.frm, x.to, x.num, ⟨x.text.toArray⟩, va, vb⟩ ++ [.int .u64 x.frm, .int .u64 x.to, .int .u64 x.a, .int .u64 x.b, .int .i64 x.kids]) 227 → Ext (· = p.block) w w1 →
   va = (if 0 < x.kids then (x.a : Int) + 1 else 0) → vb = (if 1 < x.kids then (x.b : Int) + 1 else 0) → m_C_j4 (some q) p None w1 K := by
  intro va vb w1 h1 hB1 E1 hva hvb
  have hn : (⟨k, x.frm, x.to, x.num, ⟨x.text.toArray⟩, va, vb⟩ : Sp.Node) = x.node k := by subst hva hvb; rfl
  rw [hn] at hB1
  refine c_sub4 q a s bs r m p (x.node k) _ h1 hok hB1 hpS.2.2.1 K (fun y w' hy ⟨F', g1, g2, g3, g4⟩ => hK y w' hy ⟨F', g1, g2, (E1.mono (fun b _ h => .inr h)).trans (g3.mono (fun b _ h => .inl h)), fun b hb => (g4 b hb).imp id (fun h => by have := E1.size; omega)⟩)
 unfold m_C_j2
 refine ⟨fun hc => (by cases hc), fun _ => ⟨x.kids, hB.cell (i := 11) rfl, ?_⟩⟩
 have j3 : ∀ (va : Int) (w1 : World), StAt w1 q a s bs L r m S FP F → Box w1 p (nrow ⟨k, x.frm, x.to, x.num, ⟨x.text.toArray⟩, va, 0⟩ ++ [.int .u64 x.frm, .int .u64 x.to, .int .u64 x.a, .int .u64 x.b, .int .i64 x.kids]) 227 → Ext (· = p.block) w w1 →
   va = (if 0 < x.kids then (x.a : Int) + 1 else 0) → m_C_j3 (some q) p None w1 K := by
  intro va w1 h1 hB1 E1 hva
  unfold m_C_j3
  refine ⟨x.kids, hB1.cell (i := 11) rfl, fun hc => ?_, fun hc => ?_⟩
  ·have hc : 1 < x.kids := by have := of_decide_eq_true hc; omega
   refine ⟨x.b, hB1.cell (i := 10) rfl, hB1.canW (i := 6) (by simp [nrow]), id, ?_⟩
   rintro w2 e2
   obtain ⟨h2, E2⟩ := st5 h1 e2
   have hB2 := hB1.set 6 (.int .i64 (IntKind.i64.wrap (IntKind.u64.wrap ((x.b : Int) + 1))))
   rw [← e2, raw_rowB, wr _ (hb hc)] at hB2
   exact fin va _ w2 h2 hB2 (E1.trans E2) hva (by rw [if_pos hc])
  ·have hc : ¬ 1 < x.kids := by have := of_decide_eq_false hc; omega
   exact fin va 0 w1 h1 hB1 E1 hva (by rw [if_neg hc])
 refine ⟨fun hc => ?_, fun hc => ?_⟩
 ·have hc : 0 < x.kids := by have := of_decide_eq_true hc; omega
  refine ⟨x.a, hB.cell (i := 9) rfl, hB.canW (i := 5) (by simp [nrow]), id, ?_⟩
  rintro w2 e2
  obtain ⟨h2, E2⟩ := st5 h e2
  have hB2 := hB.set 5 (.int .i64 (IntKind.i64.wrap (IntKind.u64.wrap ((x.a : Int) + 1))))
  rw [← e2, raw_rowA, wr _ (ha hc)] at hB2
  exact j3 _ w2 h2 hB2 E2 (by rw [if_pos hc])
 ·have hc : ¬ 0 < x.kids := by have := of_decide_eq_false hc; omega
  exact j3 0 w h hB (Ext.refl _) (by rw [if_neg hc])
theorem c_subterm (q a : Addr) (s : Sl) (bs : List UInt8) (r : Rd) (m : Nat) {S FP F : NP} {L : Sp.Pool} {w0 : World} (h : StAt w0 q a s bs L r m S FP F) (hok : Sp.Ok L) (hlt : r.at_ < bs.length) (he : r.err = 0) :
  Calls Try.prog 129 #[.pointer (some q), .pointer (some a), .map (some m)] w0 (fun e w' => ∃ y : Int, e = .returned (.int .i64 y) ∧ (y = (rdStep bs L r).2.1 ∧ ∃ F', PoolAt w' q (rdStep bs L r).1 F' ∧ RdS S w' a s bs (rdStep bs L r).2.2 ∧ Ext (fun b => FP b ∨ b = a.block) w0 w' ∧ ∀ b, F' b → FP b ∨ w0.heap.size ≤ b)) := by
 refine w_C (some q) (some a) (some m) w0 (fun y w' => y = (rdStep bs L r).2.1 ∧ ∃ F', PoolAt w' q (rdStep bs L r).1 F' ∧ RdS S w' a s bs (rdStep bs L r).2.2 ∧ Ext (fun b => FP b ∨ b = a.block) w0 w' ∧ ∀ b, F' b → FP b ∨ w0.heap.size ≤ b) ?_
 unfold m_C
 refine (c_Byte a s bs r w0 h.rd (Nat.le_of_lt hlt) h.lS).mono ?_
 rintro _ w1 ⟨_, rfl, rfl, hR1, E1⟩
 refine ⟨_, rfl, E1.kept (fun b hb => hb.elim), ?_⟩
 rw [rdStep_eq bs L r hlt he]
 rw [rByte_ok bs r hlt he] at hR1 ⊢
 simp only at hR1 ⊢
 generalize hk : bs[r.at_].toNat = k at *
 have hk256 : k < 256 := by rw [← hk]; exact bs[r.at_].toNat_lt
 have S1 : StAt w1 q a s bs L ⟨r.at_ + 1, 0, r.spot⟩ m S FP F := ⟨h.pool.ext E1 (fun b hb e => (h.dP b hb).1 e), hR1, h.kinds.ext E1 (fun b hb e => hb.elim (fun hb => (h.dF b hb).1 e) (fun hb => h.dm.1 (hb.symm.trans e))), fun b hb => Nat.lt_of_lt_of_le (h.lS b hb) E1.size, Nat.lt_of_lt_of_le h.la E1.size, h.dP, h.dF, h.dm⟩
 intro p1 w2 n2
 rw [wrap_id (by omega)] at n2
 have E2 : Pure w1 w2 := Ext.new n2
 have S2 := S1.pure E2
 have B2 : Box w2 p1 (noRaw.cells k) 227 := Box.of_newA n2
 have bp := n2.at_size
 have z1 := E1.size
 have E02 : Ext (· = a.block) w0 w2 := E1.thenPure E2
 refine ⟨k, B2.cell0, ?_⟩
 by_cases hkk : isKindN k = true
 ·have hk19 : 1 ≤ k ∧ k ≤ 9 := by unfold isKindN at hkk; simpa using hkk
  obtain ⟨v2, hlook, hLst⟩ := S2.kinds.get (k : Int) (by omega) (by omega) true
  refine ⟨v2, true, hlook, fun hc => (by cases hc), fun _ => ?_⟩
  rw [if_pos hkk]
  generalize hfs : flds (k : Int) = fs at *
  have hf3 : fs.length ≤ 3 := by rw [← hfs]; exact flds_len _
  have hrat : ∀ j, (rdFlds bs (fs.take j) (noRaw, ⟨r.at_ + 1, 0, r.spot⟩)).2.at_ ≤ bs.length := fun j => (rdFlds_at bs (fs.take j) noRaw ⟨r.at_ + 1, 0, r.spot⟩ (by simp only; omega)).2
  refine ⟨fun x1 Hl w => ∃ j : Nat, x1 = j ∧ j ≤ fs.length ∧ Hl = None ∧ StAt w q a s bs L (rdFlds bs (fs.take j) (noRaw, ⟨r.at_ + 1, 0, r.spot⟩)).2 m S FP F ∧ Box w p1 ((rdFlds bs (fs.take j) (noRaw, ⟨r.at_ + 1, 0, r.spot⟩)).1.cells k) 227 ∧ Lst F w 2 v2 (fs.map Fld.row) ∧ Ext (· = a.block) w0 w, fun x1 _ => ((fs.length : Int) - x1).toNat, ⟨0, rfl, Nat.zero_le _, rfl, S2, B2, hLst, E02⟩, ?_⟩
  rintro _ _ wl _ ⟨j, rfl, hj, rfl, hS, hB, hL, hE⟩
  unfold m_C_l1
  have hlen : v2.len = fs.length := by rw [hL.len, List.length_map]
  have ple : p1.block < wl.heap.size := hB.lt
  have zE := hE.size
  have nS : ¬ S p1.block := fun hh => by have := h.lS _ hh; omega
  have nF : ¬ F p1.block := fun hh => by have := h.kinds.lt _ hh; omega
  have nP : ¬ FP p1.block := fun hh => by have := h.pool.lt hh; omega
  have na : p1.block ≠ a.block := fun hh => by have := h.la; omega
  have nm : p1.block ≠ m := fun hh => by have := h.kinds.mlt; omega
  refine ⟨fun hc => ?_, fun hc => ?_⟩
  ·have hc := lt_of_dec hlen hc
   obtain ⟨a1, hat, _, hrow⟩ := hL.nth hc
   refine ⟨a1, hat, _, _, hrow, ?_⟩
   intro p2 w3 n3
   have E3 : Pure wl w3 := Ext.new n3
   refine ⟨⟨rfl, fun i hi => (Box.of_newA n3).canW (by simpa using hi)⟩, id, ?_⟩
   rintro w4 e4
   have X4 : Ext (· = p2.block) w3 w4 := by rw [e4]; exact Ext.storeRow _ _ _
   have B4 : Box w4 p2 [.func (.func fs[j].put) #[] #[], .func (.func fs[j].get) #[] #[]] 195 := by rw [e4]; exact (Box.of_newA n3).store rfl
   have hp2 := n3.at_size
   have E34 : Pure wl w4 := E3.own (by rw [hp2]; exact Nat.le_refl _) X4
   have S4 := hS.pure E34
   refine ⟨_, B4.cell (i := 1) rfl, fs[j].get, #[], #[], rfl, call_get fs[j], ?_⟩
   refine (c_get fs[j] a p1 s bs _ _ w4 S4.rd (hrat j) S4.lS (hB.pure E34) rfl (fun e => na e.symm) (fun b hb e => nS (e ▸ hb))).mono ?_
   rintro _ w5 ⟨rfl, hR5, hB5, E5⟩
   rw [upd_cells] at hB5
   have hsn := rdFlds_snoc bs fs j hc (noRaw, ⟨r.at_ + 1, 0, r.spot⟩)
   refine ⟨rfl, E5.kept (fun b hb => hb.elim), ⟨j + 1, wrap_succ hc (by omega), hc, rfl, ?_, ?_, ?_, ?_⟩, by rw [wrap_succ hc (by omega)]; exact lt_dec hc⟩
   ·rw [hsn]
    exact ⟨S4.pool.ext E5 (fun b hb e => e.elim (fun e => (h.dP b hb).1 e) (fun e => nP (e ▸ hb))), hR5, S4.kinds.ext E5 (fun b hb e => hb.elim (fun hb => e.elim (fun e => (h.dF b hb).1 e) (fun e => nF (e ▸ hb))) (fun hb => e.elim (fun e => h.dm.1 (hb.symm.trans e)) (fun e => nm (e.symm.trans hb)))), fun b hb => Nat.lt_of_lt_of_le (S4.lS b hb) E5.size, Nat.lt_of_lt_of_le S4.la E5.size, h.dP, h.dF, h.dm⟩
   ·rw [hsn]; exact hB5
   ·exact (hL.pure E34).ext E5 (fun b hb e => e.elim (fun e => (h.dF b hb).1 e) (fun e => nF (e ▸ hb)))
   ·exact (hE.thenPure E34).trans' E5 (fun i hi e => e.elim id (fun e => by omega))
  ·have hc := eq_of_dec hlen hj hc
   subst hc
   rw [List.take_length] at hS hB
   have hkd := (@Sp.flds_kids bs (k : Int) (by omega) (by omega) ⟨r.at_ + 1, 0, r.spot⟩).1
   rw [hfs] at hkd
   generalize rdFlds bs fs (noRaw, ⟨r.at_ + 1, 0, r.spot⟩) = st at *
   obtain ⟨x, r'⟩ := st
   simp only at hS hB hkd
   have fin : ∀ (y : Int) (w : World) (F' : NP), PoolAt w q (rdIn L k (x, r')).1 F' → RdS S w a s bs (rdIn L k (x, r')).2.2 → Ext (fun b => FP b ∨ b = a.block) w0 w → (∀ b, F' b → FP b ∨ w0.heap.size ≤ b) → y = (rdIn L k (x, r')).2.1 →
     y = (rdIn L k (x, r')).2.1 ∧ ∃ F', PoolAt w q (rdIn L k (x, r')).1 F' ∧ RdS S w a s bs (rdIn L k (x, r')).2.2 ∧ Ext (fun b => FP b ∨ b = a.block) w0 w ∧ ∀ b, F' b → FP b ∨ w0.heap.size ≤ b := fun y w F' a1 a2 a3 a4 a5 => ⟨a5, F', a1, a2, a3, a4⟩
   have hEo : Ext (fun b => FP b ∨ b = a.block) w0 wl := hE.mono (fun b _ h => .inr h)
   have bad : ∀ (e : Nat) (w : World), nodeErr k L.length x r'.err = e → e ≠ 0 → Ext (· = p1.block) wl w → (((e : Nat) : Int) = (rdIn L k (x, r')).2.1 ∧ ∃ F', PoolAt w q (rdIn L k (x, r')).1 F' ∧ RdS S w a s bs (rdIn L k (x, r')).2.2 ∧ Ext (fun b => FP b ∨ b = a.block) w0 w ∧ ∀ b, F' b → FP b ∨ w0.heap.size ≤ b) := by
    intro e w hne h0 E
    have hr : rdIn L k (x, r') = (L, (e : Int), r') := by
     unfold rdIn; simp only; rw [if_pos (by rw [hne]; exact h0), hne]
    rw [hr]
    exact ⟨rfl, FP, hS.pool.ext E (fun b hb e => nP (e ▸ hb)), hS.rd.ext E (fun b hb e => nS (e ▸ hb)) (fun e => na e.symm), hEo.trans' E (fun i hi e => by omega), fun b hb => .inl hb⟩
   refine (c_Why a s bs r' wl hS.rd).mono ?_
   rintro _ w6 ⟨_, _, rfl, rfl, rfl, E6⟩
   have S6 := hS.pure E6
   have B6 := hB.pure E6
   refine ⟨_, _, rfl, E6.keptP, fun hc => ?_, fun hc => ?_⟩
   ·have hc : r'.err ≠ 0 := by have := bne_iff_ne.1 hc; omega
    exact bad r'.err w6 (by unfold nodeErr; rw [if_pos hc]) hc (Ext.pure E6)
   ·have hc : r'.err = 0 := by
     have : ((r'.err : Int) != 0) = false := hc
     simpa using this
    refine ⟨fun w' => w'.cell? (p1.add 8) = some (.int .u64 x.to), (B6.pure (Ext.drew w6)).cell (i := 8) rfl, ?_⟩
    rintro w7 e7
    have E7 : Pure w6 w7 := by rw [e7]; exact Ext.drew w6
    have B7 := B6.pure E7
    refine ⟨x.frm, B7.cell (i := 7) rfl, x.to, fun w' hw' => hw', ?_⟩
    refine (p_E (x.frm : Int) w7).mono ?_
    rintro _ w8 ⟨rfl, E8⟩
    have B8 := B7.pure E8
    refine ⟨_, rfl, B8.cell (i := 8) rfl, E8.keptP, ?_⟩
    refine (p_E (x.to : Int) w8).mono ?_
    rintro _ w9 ⟨rfl, E9⟩
    have B9 := B8.pure E9
    refine ⟨_, rfl, B9.cell (i := 8) rfl, E9.keptP, B9.canW (i := 1) (by simp [Raw.cells]), id, ?_⟩
    rintro w10 e10
    have X10 : Ext (· = p1.block) w9 w10 := by rw [e10]; exact ext_set
    have B10 := B9.set 1 (.int .i64 (s_E x.frm))
    rw [← e10] at B10
    refine ⟨B10.cell (i := 8) rfl, B10.canW (i := 2) (by simp [Raw.cells]), id, ?_⟩
    rintro w11 e11
    have X11 : Ext (· = p1.block) w10 w11 := by rw [e11]; exact ext_set
    have B11 := B10.set 2 (.int .i64 (s_E x.to))
    rw [← e11, raw_row] at B11
    have E11 : Ext (· = p1.block) wl w11 := ((Ext.pure (((E6.trans E7).trans E8).trans E9)).trans X10).trans X11
    have S11 : StAt w11 q a s bs L r' m S FP F := ⟨hS.pool.ext E11 (fun b hb e => nP (e ▸ hb)), hS.rd.ext E11 (fun b hb e => nS (e ▸ hb)) (fun e => na e.symm), hS.kinds.ext E11 (fun b hb e => hb.elim (fun hb => nF (e ▸ hb)) (fun hb => nm (e.symm.trans hb))), fun b hb => Nat.lt_of_lt_of_le (hS.lS b hb) E11.size, Nat.lt_of_lt_of_le hS.la E11.size, h.dP, h.dF, h.dm⟩
    refine ⟨k, s_E x.frm, s_E x.to, x.num, ⟨x.text.toArray⟩, 0, 0, row_left B11, ?_⟩
    rw [wire_names]
    by_cases hnm : 16 ≤ x.frm ∨ 16 ≤ x.to ∨ ((k = 8 ∨ k = 9) ∧ x.frm = x.to)
    ·rw [if_pos hnm]
     refine ⟨fun _ w12 hs12 => ?_, fun hc => (by cases hc)⟩
     exact bad 50 w12 (by unfold nodeErr; rw [if_neg (by omega), if_pos hnm]) (by decide) (E11.thenPure hs12.ext)
    ·rw [if_neg hnm]
     refine ⟨fun hc => (by cases hc), fun _ w12 hs12 => ?_⟩
     have E12 : Pure w11 w12 := hs12.ext
     have S12 := S11.pure E12
     refine (c_term_Len q w12 S12.pool).mono ?_
     rintro _ w13 ⟨_, rfl, rfl, rfl⟩
     have B12 := B11.pure E12
     have hLs := hok.few
     refine ⟨_, rfl, Kept.refl _, x.kids, B12.cell (i := 11) rfl, ?_⟩
     rw [wrap_u64 (by omega)]
     have bad71 : ((0 < x.kids ∧ L.length ≤ x.a) ∨ (1 < x.kids ∧ L.length ≤ x.b)) → ((71 : Int) = (rdIn L k (x, r')).2.1 ∧ ∃ F', PoolAt w13 q (rdIn L k (x, r')).1 F' ∧ RdS S w13 a s bs (rdIn L k (x, r')).2.2 ∧ Ext (fun b => FP b ∨ b = a.block) w0 w13 ∧ ∀ b, F' b → FP b ∨ w0.heap.size ≤ b) := fun hh =>
      bad 71 w13 (by unfold nodeErr; rw [if_neg (by omega), if_neg hnm, if_pos hh]) (by decide) (E11.thenPure E12)
     have good : ¬ ((0 < x.kids ∧ L.length ≤ x.a) ∨ (1 < x.kids ∧ L.length ≤ x.b)) → m_C_j2 (some q) p1 false None w13 (fun y w' => y = (rdIn L k (x, r')).2.1 ∧ ∃ F', PoolAt w' q (rdIn L k (x, r')).1 F' ∧ RdS S w' a s bs (rdIn L k (x, r')).2.2 ∧ Ext (fun b => FP b ∨ b = a.block) w0 w' ∧ ∀ b, F' b → FP b ∨ w0.heap.size ≤ b) := fun hh => by
      have hr : rdIn L k (x, r') = (if (Sp.find L (x.node k)).isSome = true then L else (Sp.make L (x.node k)).2.2, if (Sp.find L (x.node k)).isSome = true then 72 else (Sp.make L (x.node k)).2.1, r') := by
       have hne : nodeErr k L.length x r'.err = 0 := by unfold nodeErr; rw [if_neg (by omega), if_neg hnm, if_neg hh]
       unfold rdIn
       simp only
       rw [if_neg (by rw [hne]; simp)]
       split <;> rfl
      rw [hr]
      refine c_sub3 q a s bs r' m p1 k x S12 hok (by omega) (by omega) (by omega) (by omega) B12 ⟨na, nS, nP, nF, nm⟩ _ ?_
      rintro y w' hy ⟨F', g1, g2, g3, g4⟩
      exact ⟨hy, F', g1, g2, (hEo.trans' (E11.thenPure E12) (fun i hi e => by omega)).trans' g3 (fun i hi e => e.elim .inl (fun e => by omega)), fun b hb => (g4 b hb).imp id (fun hh => by have := E11.size; have := E12.size; omega)⟩
     have j5 : ∀ x3 : Bool, x3 = decide (0 < x.kids ∧ L.length ≤ x.a) → m_C_j5 (some q) p1 (L.length : Int) x3 None w13 (fun y w' => y = (rdIn L k (x, r')).2.1 ∧ ∃ F', PoolAt w' q (rdIn L k (x, r')).1 F' ∧ RdS S w' a s bs (rdIn L k (x, r')).2.2 ∧ Ext (fun b => FP b ∨ b = a.block) w0 w' ∧ ∀ b, F' b → FP b ∨ w0.heap.size ≤ b) := by
      intro x3 h3
      unfold m_C_j5
      refine ⟨fun hc => ?_, fun hc => ?_⟩
      ·rw [hc] at h3
       have h3 := of_decide_eq_true h3.symm
       unfold m_C_j2
       exact ⟨fun _ => bad71 (.inl h3), fun hc => (by cases hc)⟩
      ·rw [hc] at h3
       have h3 := of_decide_eq_false h3.symm
       refine ⟨x.kids, B12.cell (i := 11) rfl, fun hc => ?_, fun hc => ?_⟩
       ·have hc := of_decide_eq_true hc
        refine ⟨x.b, B12.cell (i := 10) rfl, ?_⟩
        rw [wrap_u64 (by omega)]
        by_cases hb : L.length ≤ x.b
        ·rw [decide_eq_true (show (x.b : Int) ≥ (L.length : Int) by omega)]
         unfold m_C_j2
         exact ⟨fun _ => bad71 (.inr ⟨by omega, hb⟩), fun hc => (by cases hc)⟩
        ·rw [decide_eq_false (show ¬ (x.b : Int) ≥ (L.length : Int) by omega)]
         exact good (by omega)
       ·have hc := of_decide_eq_false hc
        exact good (by omega)
     refine ⟨fun hc => ?_, fun hc => ?_⟩
     ·have hc := of_decide_eq_true hc
      refine ⟨x.a, B12.cell (i := 9) rfl, j5 _ ?_⟩
      rw [decide_eq_decide]; omega
     ·have hc := of_decide_eq_false hc
      refine j5 _ ?_
      rw [decide_eq_false]; omega
 ·have hnk : ¬ (1 ≤ (k : Int) ∧ (k : Int) ≤ 9) := fun hh => hkk (by unfold isKindN; simp; omega)
  refine ⟨_, false, S2.kinds.none (k : Int) hnk, fun _ => ?_, fun hc => (by cases hc)⟩
  rw [if_neg hkk]
  exact ⟨rfl, FP, S2.pool, S2.rd, E02.mono (fun b _ h => .inr h), fun b hb => .inl hb⟩
end Go.Proofs
end
section
open Go Go.SE
open Go.IntKind renaming i64 → q6
namespace Go.Proofs
set_option maxRecDepth 100000
set_option maxHeartbeats 4000000
attribute [local irreducible] wpL wpX opE wpE Calls
def m_S2 (p1 : Option Addr) (aA : Option Addr) (t1 : Int) (w0 : World) (K : Int → Int → WP) : Prop :=
 ∀ (p2 : Addr) (w1 : World), New w0 (.cells #[(vp p1)] 36) p2 w1 →
 ∀ (p3 : Addr) (w2 : World), New w1 (.cells #[(vp aA)] 36) p3 w2 →
 ∀ (p4 : Addr) (w3 : World), New w2 (.cells #[(vi 0)] 32) p4 w3 →
 ∀ (p5 : Addr) (w4 : World), New w3 (.cells #[(vi 0)] 33) p5 w4 →
 ∃ v1 : Option Addr, w4.cell? p2 = some (vp v1) ∧
 Br (Option.isNone v1)
  (CanW w4 p4 ∧ ¬ None p4.block ∧ ∀ w5 : World, w5 = w4.setCell p4 (vi 0) →
  CanW w5 p5 ∧ ¬ None p5.block ∧ ∀ w6 : World, w6 = w5.setCell p5 (vi 0) →
  ∃ aB : Int, w6.cell? p4 = some (vi aB) ∧
  ∃ aC : Int, w6.cell? p5 = some (vi aC) ∧
  K aB aC w6)
  (∃ v2 : Option Addr, w4.cell? p3 = some (vp v2) ∧
  Calls Try.prog 119 #[(vp v2), (vi t1)] w4 (fun e w7 => ∃ r1 : Bool, e = .returned (vb r1) ∧ 
   Kept None w4 w7 ∧
   Br (!r1)
    (CanW w7 p4 ∧ ¬ None p4.block ∧ ∀ w8 : World, w8 = w7.setCell p4 (vi 0) →
    CanW w8 p5 ∧ ¬ None p5.block ∧ ∀ w9 : World, w9 = w8.setCell p5 (vi 51) →
    ∃ aD : Int, w9.cell? p4 = some (vi aD) ∧
    ∃ aE : Int, w9.cell? p5 = some (vi aE) ∧
    K aD aE w9)
    (∃ v3 : Option Addr, w7.cell? p2 = some (vp v3) ∧
    ∃ a1 : Addr, v3 = some a1 ∧
    ∃ v4 : Sl, w7.cell? a1 = some v4.v ∧
    ∀ (p6 : Addr) (w10 : World), New w7 (.cells #[(vi 0)] 3) p6 w10 →
    CanW w10 p6 ∧ ¬ None p6.block ∧ ∀ w11 : World, w11 = w10.setCell p6 (vi (v4.len : Int)) →
    ∀ (p7 : Addr) (w12 : World), New w11 (.map #[] 0) p7 w12 →
    ∀ (p8 : Addr) (w13 : World), New w12 (.cells #[(.map none)] 146) p8 w13 →
    CanW w13 p8 ∧ ¬ None p8.block ∧ ∀ w14 : World, w14 = w13.setCell p8 (.map (some p7.block)) →
    ∃ v5 : Option Addr, w14.cell? p3 = some (vp v5) ∧
    Calls Try.prog 30 #[(vp v5), (vi t1)] w14 (fun e w15 => ∃ r2 : Value, e = .returned r2 ∧ 
     Kept None w14 w15 ∧
     ∃ (f1 : FuncId) (cs1 : Array Value), r2 = .func (.func f1) #[] cs1 ∧ (∀ args w, (callFunc f1 args).run Try.prog w = .ok (.enter f1 args) w) ∧
     ∃ (xs1 : List (Int)) (Rd1 : WP), IterC Try.prog f1 cs1 (fun (z2 : Int) => #[(vi z2)]) xs1 Rd1 w15 ∧
     ∃ (I1 Ir1 : List (Int) → NP → WP), RngI w0 Rd1 I1 (fun _ _ _ => False) Ir1 ∧ I1 [] None w15 ∧
     (∀ (pre1 : List (Int)) (z2 : Int) (Y1 : NP) (A1 : World), I1 pre1 Y1 A1 → Hst w0 Y1 A1 Y1 A1 → (∃ post, xs1 = pre1 ++ z2 :: post) →
      ∃ v6 : Option Addr, A1.cell? p3 = some (vp v6) ∧
      Calls Try.prog 67 #[(vp v6), (vi z2)] A1 (fun e w16 => ∃ aF aG : Int, ∃ aH aI : Int, ∃ aJ : ByteArray, ∃ aK aL : Int, ∃ r3 : Bool, e = .returned (.tuple #[(.agg #[(vi aF), (vi aG), (vi aH), (vu aI), (vs aJ), (vi aK), (vi aL)]), (vb r3)]) ∧ 
       Kept None A1 w16 ∧
       ∀ (p9 : Addr) (w17 : World), New w16 (.cells #[(vi 0), (vi 0), (vi 0), (vu 0), (vs ⟨#[]⟩), (vi 0), (vi 0)] 106) p9 w17 →
       (∀ j, j < 7 → CanW w17 (p9.add j)) ∧ ¬ None p9.block ∧ ∀ w18 : World, w18 = storeRow w17 p9 [(vi aF), (vi aG), (vi aH), (vu aI), (vs aJ), (vi aK), (vi aL)] →
       ∃ C1 : WP, C1 w18.drew ∧ ∀ w19, w19 = w18.drew →
       ∃ v7 : Option Nat, w19.cell? p8 = some (.map v7) ∧
       ∃ v8 : Int, w19.cell? (p9.add 5) = some (vi v8) ∧
       ∃ v9 : Int, (Instr.lookup 146 (.map v7) (vi v8) false).run Try.prog w19 = .ok (vi v9) w19 ∧
       ∃ v10 : Option Nat, (∀ w', C1 w' → w'.cell? p8 = some (.map v10)) ∧
       ∃ v11 : Int, w19.cell? (p9.add 6) = some (vi v11) ∧
       ∃ v12 : Int, (∀ w', C1 w' → (Instr.lookup 146 (.map v10) (vi v11) false).run Try.prog w' = .ok (vi v12) w') ∧
       CanW w19 (p9.add 5) ∧ ¬ None (p9.add 5).block ∧ ∀ w20 : World, w20 = w19.setCell (p9.add 5) (vi v9) → C1 w20 ∧
       CanW w20 (p9.add 6) ∧ ¬ None (p9.add 6).block ∧ ∀ w21 : World, w21 = w20.setCell (p9.add 6) (vi v12) →
       ∃ v13 : Option Addr, w21.cell? p2 = some (vp v13) ∧
       ∃ aQ aR : Int, ∃ aS aT : Int, ∃ aU : ByteArray, ∃ aV aW : Int, Row w21 p9 [(vi aQ), (vi aR), (vi aS), (vu aT), (vs aU), (vi aV), (vi aW)] ∧
       Calls Try.prog 130 #[(vp v13), (.agg #[(vi aQ), (vi aR), (vi aS), (vu aT), (vs aU), (vi aV), (vi aW)])] w21 (fun e w22 => ∃ r4 r5 : Int, e = .returned (.tuple #[(vi r4), (vi r5)]) ∧ 
        Kept None w21 w22 ∧
        Br (r5 != 0)
         (∃ v14 : Option Addr, w22.cell? p2 = some (vp v14) ∧
         ∃ v15 : Int, w22.cell? p6 = some (vi v15) ∧
         Calls Try.prog 84 #[(vp v14), (vi v15)] w22 (fun e w23 => e = .returned (.tuple #[]) ∧ 
          Kept None w22 w23 ∧
          CanW w23 p4 ∧ ¬ None p4.block ∧ ∀ w24 : World, w24 = w23.setCell p4 (vi 0) →
          CanW w24 p5 ∧ ¬ None p5.block ∧ ∀ w25 : World, w25 = w24.setCell p5 (vi r5) →
          Kept Y1 A1 w25 ∧ Ir1 (pre1 ++ [z2]) Y1 w25))
         (∃ v16 : Option Nat, w22.cell? p8 = some (.map v16) ∧
         ∃ w26 : World, (Instr.mapUpdate 146 (.map v16) (vi z2) (vi r4)).run Try.prog w22 = .ok () w26 ∧
         Kept None w22 w26 ∧
         Kept Y1 A1 w26 ∧ I1 (pre1 ++ [z2]) Y1 w26)))) ∧
     (∀ (H1 : NP) (w27 : World), Hst w0 H1 w27 H1 w27 → (∀ b, None b → H1 b) → Kept None w15 w27 → I1 xs1 H1 w27 →
      ∃ v17 : Option Nat, w27.cell? p8 = some (.map v17) ∧
      ∃ v18 : Int, (Instr.lookup 146 (.map v17) (vi t1) false).run Try.prog w27 = .ok (vi v18) w27 ∧
      CanW w27 p4 ∧ ¬ H1 p4.block ∧ ∀ w28 : World, w28 = w27.setCell p4 (vi v18) →
      CanW w28 p5 ∧ ¬ H1 p5.block ∧ ∀ w29 : World, w29 = w28.setCell p5 (vi 0) →
      ∀ (w30 : World), Hst w0 H1 w29 H1 w30 →
      ∃ aM : Int, w30.cell? p4 = some (vi aM) ∧
      ∃ aN : Int, w30.cell? p5 = some (vi aN) ∧
      K aM aN w30) ∧
     (∀ (pre2 : List (Int)) (H2 : NP) (w32 : World), Hst w0 H2 w32 H2 w32 → Ir1 pre2 H2 w32 →
      ∃ aO : Int, w32.cell? p4 = some (vi aO) ∧
      ∃ aP : Int, w32.cell? p5 = some (vi aP) ∧
      K aO aP w32)))))
theorem w_S2 (p1 : Option Addr) (aA : Option Addr) (t1 : Int) (w0 : World) (K : Int → Int → WP) (h : m_S2 p1 aA t1 w0 K) :
  Calls Try.prog 78 #[(vp p1), (vp aA), (vi t1)] w0 (fun e w' => ∃ r6 r7 : Int, e = .returned (.tuple #[(vi r6), (vi r7)]) ∧ K r6 r7 w') := by
 unfold m_S2 at h
 refine cw (args := [(vp p1), (vp aA), (vi t1)]) Try.func78 Try.ntmps78 ?_
 have hs := Hst.start w0
 have hb := HB.nil None w0
 refine wpE_seq (rg (sn (O := (.cells #[(vp p1)] 36)) xb ?_))
 intro p2 w1 hn21
 have h := h p2 w1 hn21
 have hs := hs.again (Ext.new (F := None) hn21).keptP
 have hb := hb.kept (Ext.new (F := None) hn21).keptP
 refine sn (O := (.cells #[(vp aA)] 36)) xb ?_
 intro p3 w2 hn20
 have h := h p3 w2 hn20
 have hs := hs.again (Ext.new (F := None) hn20).keptP
 have hb := hb.kept (Ext.new (F := None) hn20).keptP
 refine sn (O := (.cells #[(vi 0)] 32)) (x_alloc (Try.zeroValue32 _) rfl) ?_
 intro p4 w3 hn19
 have h := h p4 w3 hn19
 have hs := hs.again (Ext.new (F := None) hn19).keptP
 have hb := hb.kept (Ext.new (F := None) hn19).keptP
 refine sn (O := (.cells #[(vi 0)] 33)) (x_alloc (Try.zeroValue33 _) rfl) ?_
 intro p5 w4 hn18
 have h := h p5 w4 hn18
 have hs := hs.again (Ext.new (F := None) hn18).keptP
 have hb := hb.kept (Ext.new (F := None) hn18).keptP
 refine wpL_nil (th_n (wpE_seq (wpE_seq (rg ?_))))
 obtain ⟨v1, hv29, h⟩ := h
 refine q2 (vp v1) (xl (Try.isAgg36 _) hv29) (q2 (vb (Option.isNone v1)) (x_ptreq (by kernel_rfl) rfl Try.underlying36) (wpL_nil (th_n ?_)))
 refine wpE_cond (t := (Option.isNone v1)) (by kernel_rfl) (fun hc1 => ?_) (fun hc1 => ?_)
 ·have h := h.1 hc1
  refine wpE_seq (rg ?_)
  obtain ⟨hp1, hnh, h⟩ := h
  refine st_set (want0 rfl) (x_store (a := p4) (v := (vi 0)) (by kernel_rfl) (by kernel_rfl) rfl (Try.sizeOf32 _) hp1) ?_
  intro w5 hn1
  have h := h w5 hn1
  have hk := Kept.sc hnh hn1
  obtain ⟨hs, hb⟩ := hk.hh hs hb
  obtain ⟨hp2, hnh, h⟩ := h
  refine st_set (want0 rfl) (x_store (a := p5) (v := (vi 0)) (by kernel_rfl) (by kernel_rfl) rfl (Try.sizeOf33 _) hp2) ?_
  intro w6 hn2
  have h := h w6 hn2
  have hk := Kept.sc hnh hn2
  obtain ⟨hs, hb⟩ := hk.hh hs hb
  refine wpL_nil (th_n (wpE_ret (th_r ?_)))
  obtain ⟨aB, hv1, h⟩ := h
  obtain ⟨aC, hv2, h⟩ := h
  refine resG (.inl rfl) (vs := [(vi aB), (vi aC)]) (v := (.tuple #[(vi aB), (vi aC)])) Try.results78 ⟨(RV.cell1 (A := p4) (by kernel_rfl) (Try.isAgg32 _) hv1), (RV.cell1 (A := p5) (by kernel_rfl) (Try.isAgg33 _) hv2), trivial⟩ (by kernel_rfl) ?_
  exact ⟨aB, aC, rfl, h⟩
 ·have h := h.2 hc1
  refine wpE_skip (th_n (wpE_seq (wpE_seq (rg ?_))))
  obtain ⟨v2, hv28, h⟩ := h
  refine q2 (vp v2) (xl (Try.isAgg36 _) hv28) (q0 (vi t1) ?_)
  refine sc Try.call119 (h.mono ?_)
  rintro e w7 ⟨r1, rfl, hk, h⟩
  refine ⟨_, rfl, ?_⟩
  obtain ⟨hs, hb⟩ := hk.hh hs hb
  refine q0 (vb (!r1)) (wpL_nil (th_n ?_))
  refine wpE_cond (t := (!r1)) (by kernel_rfl) (fun hc2 => ?_) (fun hc2 => ?_)
  ·have h := h.1 hc2
   refine wpE_seq (rg ?_)
   obtain ⟨hp3, hnh, h⟩ := h
   refine st_set (want0 rfl) (x_store (a := p4) (v := (vi 0)) (by kernel_rfl) (by kernel_rfl) rfl (Try.sizeOf32 _) hp3) ?_
   intro w8 hn3
   have h := h w8 hn3
   have hk := Kept.sc hnh hn3
   obtain ⟨hs, hb⟩ := hk.hh hs hb
   obtain ⟨hp4, hnh, h⟩ := h
   refine st_set (want0 rfl) (x_store (a := p5) (v := (vi 51)) (by kernel_rfl) (by kernel_rfl) rfl (Try.sizeOf33 _) hp4) ?_
   intro w9 hn4
   have h := h w9 hn4
   have hk := Kept.sc hnh hn4
   obtain ⟨hs, hb⟩ := hk.hh hs hb
   refine wpL_nil (th_n (wpE_ret (th_r ?_)))
   obtain ⟨aD, hv3, h⟩ := h
   obtain ⟨aE, hv4, h⟩ := h
   refine resG (.inl rfl) (vs := [(vi aD), (vi aE)]) (v := (.tuple #[(vi aD), (vi aE)])) Try.results78 ⟨(RV.cell1 (A := p4) (by kernel_rfl) (Try.isAgg32 _) hv3), (RV.cell1 (A := p5) (by kernel_rfl) (Try.isAgg33 _) hv4), trivial⟩ (by kernel_rfl) ?_
   exact ⟨aD, aE, rfl, h⟩
  ·have h := h.2 hc2
   refine wpE_skip (th_n (wpE_seq (rg ?_)))
   obtain ⟨v3, hv27, h⟩ := h
   refine q2 (vp v3) (xl (Try.isAgg36 _) hv27) ?_
   obtain ⟨a1, hp5, h⟩ := h
   refine q2 (vp (some a1)) (x_nilCheck (p := v3) (by kernel_rfl) hp5) (q0 (vp (some a1)) ?_)
   obtain ⟨v4, hv26, h⟩ := h
   refine q2 v4.v (xl (Try.isAgg130 _) hv26) (q0 (vi (v4.len : Int)) (sn (O := (.cells #[(vi 0)] 3)) (x_alloc (Try.zeroValue3 _) rfl) ?_))
   intro p6 w10 hn17
   have h := h p6 w10 hn17
   have hs := hs.again (Ext.new (F := None) hn17).keptP
   have hb := hb.kept (Ext.new (F := None) hn17).keptP
   obtain ⟨hp6, hnh, h⟩ := h
   refine st_set (want0 rfl) (x_store (a := p6) (v := (vi (v4.len : Int))) (by kernel_rfl) (by kernel_rfl) rfl (Try.sizeOf3 _) hp6) ?_
   intro w11 hn5
   have h := h w11 hn5
   have hk := Kept.sc hnh hn5
   obtain ⟨hs, hb⟩ := hk.hh hs hb
   refine wpL_nil (th_n (wpE_seq (rg (st_new (O := (.map #[] 0)) (fun p => .map (some p.block)) (want0 rfl) (by kernel_rfl) ?_))))
   intro p7 w12 hn16
   have h := h p7 w12 hn16
   have hs := hs.again (Ext.new (F := None) hn16).keptP
   have hb := hb.kept (Ext.new (F := None) hn16).keptP
   refine sn (O := (.cells #[(.map none)] 146)) (x_alloc (Try.zeroValue146 _) rfl) ?_
   intro p8 w13 hn15
   have h := h p8 w13 hn15
   have hs := hs.again (Ext.new (F := None) hn15).keptP
   have hb := hb.kept (Ext.new (F := None) hn15).keptP
   obtain ⟨hp7, hnh, h⟩ := h
   refine st_set (want0 rfl) (x_store (a := p8) (v := (.map (some p7.block))) (by kernel_rfl) (by kernel_rfl) rfl (Try.sizeOf146 _) hp7) ?_
   intro w14 hn6
   have h := h w14 hn6
   have hk := Kept.sc hnh hn6
   obtain ⟨hs, hb⟩ := hk.hh hs hb
   refine wpL_nil (th_n (wpE_seqC (rg ?_)))
   obtain ⟨v5, hv25, h⟩ := h
   refine q2 (vp v5) (xl (Try.isAgg36 _) hv25) (q0 (vi t1) ?_)
   refine sc Try.call30 (h.mono ?_)
   rintro e w15 ⟨r2, rfl, hk, h⟩
   refine ⟨_, rfl, ?_⟩
   obtain ⟨hs, hb⟩ := hk.hh hs hb
   refine wpL_nil (th_n ?_)
   obtain ⟨f1, cs1, hv5, hf1, h⟩ := h
   obtain ⟨xs1, Rd1, hit, I1, Ir1, hRI, h0, hbody, h⟩ := h
   refine wpB_range (encs := (fun (z2 : Int) => #[(vi z2)])) (Eq.trans (b := r2) (by kernel_rfl) hv5) hf1 hit (fun _ => rfl) (by decide) hs I1 (fun _ _ _ => False) Ir1 hRI h0 ?ha ?hr ?ht
   case ha =>
    intro l z2 w33
    refine rg (q0 (vi z2) (wpL_nil (th_n ?_)))
    refine ⟨rfl, ?_⟩
    intro pre1 Y1 A1 hi hY hpost
    have h := hbody pre1 z2 Y1 A1 hi hY hpost
    have hs := Hst.start A1
    have hb := HB.nil None A1
    refine wpE_block (wpE_seq (rg ?_))
    obtain ⟨v6, hv18, h⟩ := h
    refine q2 (vp v6) (xl (Try.isAgg36 _) hv18) (q0 (vi z2) ?_)
    refine sc Try.call67 (h.mono ?_)
    rintro e w16 ⟨aF, aG, aH, aI, aJ, aK, aL, r3, rfl, hk, h⟩
    refine ⟨_, rfl, ?_⟩
    obtain ⟨hs, hb⟩ := hk.hh hs hb
    refine q0 (.tuple #[(.agg #[(vi aF), (vi aG), (vi aH), (vu aI), (vs aJ), (vi aK), (vi aL)]), (vb r3)]) (q0 (.agg #[(vi aF), (vi aG), (vi aH), (vu aI), (vs aJ), (vi aK), (vi aL)]) (q0 (vb r3) (sn (O := (.cells #[(vi 0), (vi 0), (vi 0), (vu 0), (vs ⟨#[]⟩), (vi 0), (vi 0)] 106)) (x_alloc (Try.zeroValue106 _) rfl) ?_)))
    intro p9 w17 hn12
    have h := h p9 w17 hn12
    have hs := hs.again (Ext.new (F := None) hn12).keptP
    have hb := hb.kept (Ext.new (F := None) hn12).keptP
    obtain ⟨hp8, hnh, h⟩ := h
    refine st_set (want0 rfl) (x_storeA (a := p9) (vs := [(vi aF), (vi aG), (vi aH), (vu aI), (vs aJ), (vi aK), (vi aL)]) (by kernel_rfl) (by kernel_rfl) rfl (Try.sizeOf106 _) rfl hp8) ?_
    intro w18 hn7
    have h := h w18 hn7
    have hk : Kept None w17 w18 := by rw [hn7]; exact Kept.storeRow hnh
    obtain ⟨hs, hb⟩ := hk.hh hs hb
    refine q0 (vb r3) (wpL_nil (th_n (wpE_seq ?_)))
    obtain ⟨C1, hC, h⟩ := h
    refine wpE_drawnC C1 [9, 11] [11] (by kernel_rfl) (by kernel_rfl) (by kernel_rfl) (by kernel_rfl) hC ?_
    intro w19 hw19
    have h := h w19 hw19
    have hs : Hst A1 None w18 None w19 := by rw [hw19]; exact hs.drew
    have hb : HB None w19 [] := by rw [hw19]; exact hb.drew
    have hs := hs.here
    refine qg 0 ?_
    obtain ⟨v7, hv17, h⟩ := h
    refine sye Kp0 (xl (Try.isAgg146 _) hv17) (qx 1 (vp (some (p9.add 5))) Kp1 (qg 2 ?_))
    obtain ⟨v8, hv16, h⟩ := h
    refine sye Kp2 (xl (Try.isAgg32 _) hv16) (qg 3 ?_)
    obtain ⟨v9, hv15, h⟩ := h
    refine sye (v := (vi v9)) Kp3 (x_lookup (by kernel_rfl) (by kernel_rfl) hv15) (qg 4 ?_)
    obtain ⟨v10, hv14, h⟩ := h
    refine sy (v := (.map v10)) Kp4 (fun w' hw' => (xl (Try.isAgg146 _) (hv14 w' hw'))) (qx 5 (vp (some (p9.add 6))) Kp5 (qg 6 ?_))
    obtain ⟨v11, hv13, h⟩ := h
    refine sye Kp6 (xl (Try.isAgg32 _) hv13) (qg 7 ?_)
    obtain ⟨v12, hv12, h⟩ := h
    refine sy (v := (vi v12)) Kp7 (fun w' hw' => (x_lookup (by kernel_rfl) (by kernel_rfl) (hv12 w' hw'))) (qx 8 (vp (some (p9.add 5))) Kp8 (lg 9 ?_))
    obtain ⟨hp9, hnh, h⟩ := h
    refine sl_t Kp9 (xs (v := (vi v9)) (Try.sizeOf32 _) hp9) ?_
    intro w20 hn8
    have h := h w20 hn8
    refine ⟨.inr h.1, ?_⟩
    have h := h.2
    have hk := Kept.sc hnh hn8
    obtain ⟨hs, hb⟩ := hk.hh hs hb
    refine qx 10 (vp (some (p9.add 6))) (pickA (S8 (pickS (pickS pickZ)))) (lg 11 ?_)
    obtain ⟨hp10, hnh, h⟩ := h
    refine sl_t (pickA (S8 (pickS (pickS (pickS pickZ))))) (xs (v := (vi v12)) (Try.sizeOf32 _) hp10) ?_
    intro w21 hn9
    have h := h w21 hn9
    refine ⟨.inl (by kernel_rfl), ?_⟩
    have hk := Kept.sc hnh hn9
    obtain ⟨hs, hb⟩ := hk.hh hs hb
    refine wn (th_n (wpE_seq (rg ?_)))
    obtain ⟨v13, hv11, h⟩ := h
    refine q2 (vp v13) (xl (Try.isAgg36 _) hv11) ?_
    obtain ⟨aQ, aR, aS, aT, aU, aV, aW, hv10, h⟩ := h
    refine q2 (.agg #[(vi aQ), (vi aR), (vi aS), (vu aT), (vs aU), (vi aV), (vi aW)]) (x_loadA (a := p9) (vs := [(vi aQ), (vi aR), (vi aS), (vu aT), (vs aU), (vi aV), (vi aW)]) (by kernel_rfl) (Try.isAgg106 _) (Try.sizeOf106 _) rfl hv10) ?_
    refine sc Try.call130 (h.mono ?_)
    rintro e w22 ⟨r4, r5, rfl, hk, h⟩
    refine ⟨_, rfl, ?_⟩
    obtain ⟨hs, hb⟩ := hk.hh hs hb
    refine q0 (.tuple #[(vi r4), (vi r5)]) (q0 (vi r4) (q0 (vi r5) (q0 (vi r4) (q0 (vi r5) (wpL_nil (th_n (wpE_seq (wpE_seq (rg (q0 (vi r5) (q0 (vb (r5 != 0)) ?_)))))))))))
    refine wpL_nil (th_n ?_)
    refine wpE_cond (t := (r5 != 0)) (by kernel_rfl) (fun hc3 => ?_) (fun hc3 => ?_)
    ·have h := h.1 hc3
     refine wpE_seq (rg ?_)
     obtain ⟨v14, hv7, h⟩ := h
     refine q2 (vp v14) (xl (Try.isAgg36 _) hv7) ?_
     obtain ⟨v15, hv6, h⟩ := h
     refine q2 (vi v15) (xl (Try.isAgg3 _) hv6) ?_
     refine sc Try.call84 (h.mono ?_)
     rintro e w23 ⟨rfl, hk, h⟩
     refine ⟨_, rfl, ?_⟩
     obtain ⟨hs, hb⟩ := hk.hh hs hb
     refine wpL_nil (th_n (wpE_seq (rg (q0 (vi r5) ?_))))
     obtain ⟨hp11, hnh, h⟩ := h
     refine st_set (want0 rfl) (x_store (a := p4) (v := (vi 0)) (by kernel_rfl) (by kernel_rfl) rfl (Try.sizeOf32 _) hp11) ?_
     intro w24 hn10
     have h := h w24 hn10
     have hk := Kept.sc hnh hn10
     obtain ⟨hs, hb⟩ := hk.hh hs hb
     obtain ⟨hp12, hnh, h⟩ := h
     refine st_set (want0 rfl) (x_store (a := p5) (v := (vi r5)) (by kernel_rfl) (by kernel_rfl) rfl (Try.sizeOf33 _) hp12) ?_
     intro w25 hn11
     have h := h w25 hn11
     have hk := Kept.sc hnh hn11
     obtain ⟨hs, hb⟩ := hk.hh hs hb
     refine wpL_nil (th_n (wpE_ret (th_r (bl_r ?_))))
     exact rd_r h
    ·have h := h.2 hc3
     refine wpE_skip (th_n (rg ?_))
     obtain ⟨v16, hv9, h⟩ := h
     refine q2 (.map v16) (xl (Try.isAgg146 _) hv9) (q0 (vi z2) (q0 (vi r4) ?_))
     obtain ⟨w26, hv8, hk, h⟩ := h
     refine st_skip (want0 rfl) (x_mapUpdate (by kernel_rfl) (by kernel_rfl) (by kernel_rfl) hv8) ?_
     obtain ⟨hs, hb⟩ := hk.hh hs hb
     refine wpL_nil (bl_n ?_)
     exact rd_n h
   case hr =>
    intro D1 H1 w27 hs' hD hDe aX hk1 hio1
    have hb' := hb.behind hk1 aX hD hDe
    have hs := hs'
    have hb := hb'
    have h := h.1 H1 w27 hs aX hk1 (hio1.elim id (fun h => h.elim (fun _ h => h.elim)))
    refine wpE_seq (rg ?_)
    obtain ⟨v17, hv22, h⟩ := h
    refine q2 (.map v17) (xl (Try.isAgg146 _) hv22) (q0 (vi t1) ?_)
    obtain ⟨v18, hv21, h⟩ := h
    refine q2 (vi v18) (x_lookup (by kernel_rfl) (by kernel_rfl) hv21) ?_
    obtain ⟨hp13, hnh, h⟩ := h
    refine st_set (want0 rfl) (x_store (a := p4) (v := (vi v18)) (by kernel_rfl) (by kernel_rfl) rfl (Try.sizeOf32 _) hp13) ?_
    intro w28 hn13
    have h := h w28 hn13
    have hk := Kept.sc hnh hn13
    obtain ⟨hs, hb⟩ := hk.hh hs hb
    obtain ⟨hp14, hnh, h⟩ := h
    refine st_set (want0 rfl) (x_store (a := p5) (v := (vi 0)) (by kernel_rfl) (by kernel_rfl) rfl (Try.sizeOf33 _) hp14) ?_
    intro w29 hn14
    have h := h w29 hn14
    have hk := Kept.sc hnh hn14
    obtain ⟨hs, hb⟩ := hk.hh hs hb
    refine wpL_nil (th_n (wpE_ret (af_r hb.dead ?_)))
    intro w30 hw'
    have hl := hb.leave hs hw'
    obtain ⟨hs, hb⟩ := hl
    -- behind the loop
    have h := h w30 hs
    have hs := hs.here
    obtain ⟨aM, hv19, h⟩ := h
    obtain ⟨aN, hv20, h⟩ := h
    refine resG (.inl rfl) (vs := [(vi aM), (vi aN)]) (v := (.tuple #[(vi aM), (vi aN)])) Try.results78 ⟨(RV.cell1 (A := p4) (by kernel_rfl) (Try.isAgg32 _) hv19), (RV.cell1 (A := p5) (by kernel_rfl) (Try.isAgg33 _) hv20), trivial⟩ (by kernel_rfl) ?_
    exact ⟨aM, aN, rfl, h⟩
   case ht =>
    intro D1 pre2 H2 w31 hs' hD hDe hio
    have hs2 := hs'.putD (o := .deferred none) hD
    have hio := hRI.r _ _ _ _ _ hio hs2
    have hs2 := hs2.here
    have hs := hs2
    generalize World.putObj w31 D1 (.deferred none) = w32 at hs hio ⊢
    have hb := HB.nil H2 w32
    have h := h.2 pre2 H2 w32 hs hio
    obtain ⟨aO, hv23, h⟩ := h
    obtain ⟨aP, hv24, h⟩ := h
    refine resG (.inl rfl) (vs := [(vi aO), (vi aP)]) (v := (.tuple #[(vi aO), (vi aP)])) Try.results78 ⟨(RV.cell1 (A := p4) (by kernel_rfl) (Try.isAgg32 _) hv23), (RV.cell1 (A := p5) (by kernel_rfl) (Try.isAgg33 _) hv24), trivial⟩ (by kernel_rfl) ?_
    exact ⟨aO, aP, rfl, h⟩
def m_Y_l1 (yield1 : Value) (r1 : Sl) (x1 : Int) (wl1 : World) (Kc1 : Int → WP) (K : WP) : Prop :=
 Br (decide (x1 < (r1.len : Int)))
  (∃ a1 : Addr, At r1 x1 1 a1 ∧
  ∃ v3 : Int, wl1.cell? a1 = some (vi v3) ∧
  ∃ (ly1 : Nat), yield1 = .func (.yield ly1) #[] #[] ∧
  Yld Try.prog ly1 #[(vi v3)] wl1 (fun e w2 => ∃ b1 : Bool, e = .returned (vb b1) ∧
   Br (!b1)
    (K w2)
    (Kc1 (q6.wrap (x1 + 1)) w2)))
  (K wl1)
def m_Y (yield1 : Value) (cap1 cap2 : Addr) (w0 : World) (K : WP) : Prop :=
 ∃ v1 : Option Addr, w0.cell? cap1 = some (vp v1) ∧
 ∃ v2 : Int, w0.cell? cap2 = some (vi v2) ∧
 Calls Try.prog 86 #[(vp v1), (vi v2)] w0 (fun e w1 => ∃ r1 : Sl, e = .returned r1.v ∧ 
  ∃ (I1 : Int → WP) (mu1 : Int → World → Nat), I1 0 w1 ∧
   ∀ (x1 : Int) (wl1 : World), I1 x1 wl1 → m_Y_l1 yield1 r1 x1 wl1 (fun y'0 w' => I1 y'0 w' ∧ mu1 y'0 w' < mu1 x1 wl1) K)
theorem w_Y (yield1 : Value) (cap1 cap2 : Addr) (w0 : World) (K : WP) (h : m_Y yield1 cap1 cap2 w0 K) :
  Calls Try.prog 85 #[yield1, (vp (some cap1)), (vp (some cap2))] w0 (fun e w' => e = .returned (.tuple #[]) ∧ K  w') := by
 unfold m_Y at h
 refine cw (args := [yield1, (vp (some cap1)), (vp (some cap2))]) Try.func85 Try.ntmps85 (wpE_seq (rg ?_))
 obtain ⟨v1, hv4, h⟩ := h
 refine q2 (vp v1) (xl (Try.isAgg36 _) hv4) ?_
 obtain ⟨v2, hv3, h⟩ := h
 refine q2 (vi v2) (xl (Try.isAgg32 _) hv3) ?_
 refine sc Try.call86 (h.mono ?_)
 rintro e w1 ⟨r1, rfl, h⟩
 refine ⟨_, rfl, ?_⟩
 refine q0 (vi (r1.len : Int)) (q0 (vi 0) (wpL_nil (th_n (wpE_block ?_))))
 obtain ⟨I1, mu1, h0, hr⟩ := h
 refine wpE_loop (σ := Int × World) (fun s ρ w => w = s.2 ∧ Has ρ [(0, yield1), (8, r1.v), (9, (vi (r1.len : Int))), (10, (vi s.1))] ∧ I1 s.1 s.2) (fun s => mu1 s.1 s.2) (0, w1) ⟨rfl, hm, h0⟩ ?_
 rintro ⟨x1, wl1⟩ ρ w ⟨hw, hH, hI⟩
 obtain rfl : wl1 = w := (show w = wl1 from hw).symm
 have hH : Has ρ [(0, yield1), (8, r1.v), (9, (vi (r1.len : Int))), (10, (vi x1))] := hH
 have h := hr x1 wl1 hI
 unfold m_Y_l1 at h
 refine wpE_has hH ?_
 refine wpE_seq (rg (q0 (vb (decide (x1 < (r1.len : Int)))) (wpL_nil (th_n (wpE_seq ?_)))))
 refine wpE_cond (t := (decide (x1 < (r1.len : Int)))) (by kernel_rfl) (fun hc1 => ?_) (fun hc1 => ?_)
 ·have h := h.1 hc1
  refine wpE_skip (th_n (wpE_seq (wpE_block (wpE_seq (rg ?_)))))
  obtain ⟨a1, hv2, h⟩ := h
  refine q2 (vp (some a1)) (xi (Try.runUnderlying39 _) (Try.sizeOf32 _) hv2) ?_
  obtain ⟨v3, hv1, h⟩ := h
  refine q2 (vi v3) (xl (Try.isAgg32 _) hv1) (q0 (vi v3) (wpL_nil (th_n (wpE_seq (rg (q0 yield1 (q0 (vi v3) ?_)))))))
  obtain ⟨ly1, hy1, h⟩ := h
  refine st_yield (want0 rfl) (by kernel_rfl) hy1 (by kernel_rfl) (h.mono ?_)
  rintro e w2 ⟨b1, rfl, h⟩
  refine ⟨_, rfl, ?_⟩
  refine q0 (vb (!b1)) (wpL_nil (th_n ?_))
  refine wpE_cond (t := (!b1)) (by kernel_rfl) (fun hc2 => ?_) (fun hc2 => ?_)
  ·have h := h.1 hc2
   refine wpE_ret (bl_r (th_r (th_r (bl_r (res0 (.inl rfl) Try.results85 ?_)))))
   exact ⟨rfl, h⟩
  ·have h := h.2 hc2
   refine wpE_skip (bl_n (th_n (rg (q0 (vi (q6.wrap (x1 + 1))) (q0 (vi (q6.wrap (x1 + 1))) (wpL_nil (th_n ?_)))))))
   exact ⟨((q6.wrap (x1 + 1)), w2), ⟨rfl, hm, h.1⟩, h.2⟩
 ·have h := h.2 hc1
  refine wpE_exit (th_x (th_x (bl_eq (res0 (.inr rfl) Try.results85 ?_))))
  exact ⟨rfl, h⟩
end Go.Proofs
end
section
open Go Go.SE
namespace Go.SE
theorem Rws.kept {w w' : World} {X : NP} {e : TypeId} {sz : Nat} {s : Sl} {rs : List (List Value)} (h : Rws w e sz s rs) (hk : Kept X w w') (hX : ∀ b, s.blk b → X b) : Rws w' e sz s rs := by
 refine ⟨h.each, h.len, ?_⟩
 rcases h.own with h' | ⟨g, cur, ha, hg, r⟩
 ·exact .inl h'
 ·exact .inr ⟨g, cur, ha, by rw [hk.keep g (heap_lt hg) (hX g ⟨_, ha, rfl⟩)]; exact hg, r⟩
end Go.SE
namespace Go.Sp
theorem overS_kids {L : Pool} (hW : Wf L) {t : Int} (ht : inP L t = true) (n : Nat) (st : (Int → Bool) × List Int) : (kidsOf (nodeOf L t)).foldl (fun st k => overS L n k st) st = overS L n (nodeOf L t).b (overS L n (nodeOf L t).a st) := by
 have z : ∀ st, overS L n 0 st = st := fun st => by
  cases n with
  | zero => rfl
  | succ n => rw [overS, if_neg (by simp [inP])]
 have h1 := (hW.node ht).2.1
 have h2 := (hW.node ht).2.2.1
 unfold kidsOf
 rcases kids_le (nodeOf L t).kind with e | e | e
 ·rw [e, h1 (by omega), h2 (by omega), z, z]; rfl
 ·rw [e, h2 (by omega), z]; rfl
 ·rw [e]; rfl
end Go.Sp
namespace Go.Proofs
attribute [local irreducible] Calls
def umap (M : List Int) : List (Int × Unit) := M.map fun t => (t, ())
theorem umap_fst (M : List Int) : (umap M).map Prod.fst = M := by simp [umap, Function.comp_def]
def one1 (_ : Unit) : Value := .int .i64 1
structure WkAt (w : World) (p c1 c2 c3 c4 : Addr) (m : Nat) (so : Sl) (L : Sp.Pool) (FP : NP) (st : (Int → Bool) × List Int) : Prop where
 b1 : Box w c1 [.map (some m)] 155
 b2 : Box w c2 [.pointer (some p)] 36
 b3 : Box w c3 [.func (.func 134) #[] #[.pointer (some c1), .pointer (some c2), .pointer (some c3), .pointer (some c4)]] 153
 b4 : Box w c4 [so.v] 39
 mp : ∃ M, IMap one1 w m (umap M) ∧ ∀ x, st.1 x = decide (x ∈ M)
 out : Rws w 32 1 so (tmr st.2)
 pool : PoolAt w p L FP
 n4 : c4.block ≠ c1.block ∧ c4.block ≠ c2.block ∧ c4.block ≠ c3.block ∧ c4.block ≠ m
 nm : m ≠ c1.block ∧ m ≠ c2.block ∧ m ≠ c3.block
 ns : ∀ b, so.blk b → b ≠ c1.block ∧ b ≠ c2.block ∧ b ≠ c3.block ∧ b ≠ c4.block ∧ b ≠ m
 nf : ∀ b, FP b → b ≠ c4.block ∧ b ≠ m ∧ ¬ so.blk b
def WkF (c4 : Addr) (m : Nat) (so : Sl) (b : Nat) : Prop := b = c4.block ∨ b = m ∨ so.blk b
section
variable {w w' : World} {p c1 c2 c3 c4 : Addr} {m : Nat} {so : Sl} {L : Sp.Pool} {FP : NP} {st : (Int → Bool) × List Int}
theorem WkAt.pure (h : WkAt w p c1 c2 c3 c4 m so L FP st) (E : Pure w w') : WkAt w' p c1 c2 c3 c4 m so L FP st :=
 ⟨h.b1.pure E, h.b2.pure E, h.b3.pure E, h.b4.pure E, let ⟨M, h1, h2⟩ := h.mp; ⟨M, h1.pure E, h2⟩, h.out.pure E, h.pool.pure E, h.n4, h.nm, h.ns, h.nf⟩
end
theorem c_walk (p c1 c2 c3 c4 : Addr) (m : Nat) {L : Sp.Pool} {FP : NP} (hW : Sp.Wf L) : ∀ (n : Nat) (t : Int) (w0 : World) (st : (Int → Bool) × List Int) (so : Sl), t.toNat < n → Sp.inP L t = true → WkAt w0 p c1 c2 c3 c4 m so L FP st → Sp.OvOk L st → (∀ y, st.1 y = true → y ≤ t → y ∈ st.2) →
  Calls Try.prog 134 #[.int .i64 t, .pointer (some c1), .pointer (some c2), .pointer (some c3), .pointer (some c4)] w0 (fun e w' => e = .returned (.tuple #[]) ∧ ∃ so', WkAt w' p c1 c2 c3 c4 m so' L FP (Sp.overS L n t st) ∧ Ext (WkF c4 m so) w0 w' ∧ ∀ b, so'.blk b → so.blk b ∨ w0.heap.size ≤ b) := by
 intro n
 induction n with
 | zero => intro t w0 st so h; omega
 | succ n ih =>
 intro t w0 st so hn hin h hst hm
 have hR := Sp.over_ok hW (n + 1) t st hn hst hm
 suffices key : ∀ K : WP, (∀ so' w', WkAt w' p c1 c2 c3 c4 m so' L FP (Sp.overS L (n + 1) t st) → Ext (WkF c4 m so) w0 w' → (∀ b, so'.blk b → so.blk b ∨ w0.heap.size ≤ b) → K w') → m_U t c1 c2 c3 c4 w0 K from
  w_U _ _ _ _ _ w0 _ (key _ (fun so' w' a b c => ⟨so', a, b, c⟩))
 intro K hK
 unfold m_U
 obtain ⟨M, hM, hV⟩ := h.mp
 have hz : ∀ w, (zeroValue 3).run Try.prog w = .ok (.int .i64 0) w := fun w => Try.zeroValue3 w
 rcases hM.get Try.underlying155 Try.underlying32 (hz w0) t false with ⟨hno, hl⟩ | ⟨u, hyes, hl⟩
 ·have hnot : t ∉ M := by have := look_none.1 hno; rwa [umap_fst] at this
  have hv : st.1 t = false := by rw [hV]; simpa using hnot
  rw [Sp.overS, if_pos ⟨hin, hv⟩] at hK hR
  refine ⟨some m, h.b1.cell0, 0, hl, Br.f (by simp) ?_⟩
  obtain ⟨w1, hu, hM1, E1⟩ := hM.put (f := one1) Try.underlying155 Try.underlying32 hno ()
  refine ⟨some m, h.b1.cell0, 0, hl, w1, by rw [i64 (by omega) (by omega)]; exact hu, ?_⟩
  have A1 : WkAt w1 p c1 c2 c3 c4 m so L FP (Sp.upd st.1 t true, st.2) :=
   ⟨h.b1.ext E1 (fun e => h.nm.1 e.symm), h.b2.ext E1 (fun e => h.nm.2.1 e.symm), h.b3.ext E1 (fun e => h.nm.2.2 e.symm), h.b4.ext E1 h.n4.2.2.2,
   ⟨M ++ [t], by rw [show umap (M ++ [t]) = umap M ++ [(t, ())] by simp [umap]]; exact hM1, fun x => by
     simp only [Sp.upd, List.mem_append, List.mem_singleton]
     by_cases e : x = t
     ·simp [e]
     ·rw [if_neg e, hV]; simp [e]⟩,
   h.out.ext E1 (fun b hb => (h.ns b hb).2.2.2.2), h.pool.ext E1 (fun b hb => (h.nf b hb).2.1), h.n4, h.nm, h.ns, h.nf⟩
  refine ⟨some p, A1.b2.cell0, ?_⟩
  refine (c_kids p t w1 A1.pool hW.ok).mono ?_
  rintro _ w2 ⟨r1, rfl, hks, E2⟩
  refine ⟨_, rfl, ?_⟩
  have A2 := A1.pure E2
  have o1 : Sp.OvOk L (Sp.upd st.1 t true, st.2) := ⟨fun y hy => by simp only [Sp.upd]; split <;> simp [hst.marked y hy], hst.closed, hst.nd, hst.inp⟩
  have hkid := (hW.node hin).2.2.2.2.1
  have hlen : (Sp.kidsOf (Sp.nodeOf L t)).length ≤ 2 := by rw [Sp.kidsOf]; simp; omega
  generalize hks0 : Sp.kidsOf (Sp.nodeOf L t) = ks at *
  let sj : Nat → (Int → Bool) × List Int := fun j => (ks.take j).foldl (fun st k => Sp.overS L n k st) (Sp.upd st.1 t true, st.2)
  have good : ∀ j, j ≤ ks.length → Sp.OvOk L (sj j) ∧ ∀ y, (sj j).1 y = true → y < t → y ∈ (sj j).2 := by
   intro j
   induction j with
   | zero =>
    intro _
    refine ⟨o1, fun y hy hlt => ?_⟩
    simp only [sj, List.take_zero, List.foldl_nil, Sp.upd] at hy ⊢
    rw [if_neg (by omega)] at hy
    exact hm y hy (by omega)
   | succ j ihj =>
    intro hj
    obtain ⟨g1, g2⟩ := ihj (by omega)
    have hk := hkid ks[j] (List.getElem_mem _)
    have hk1 := (Sp.inP_iff.1 hk.1).1
    have e : sj (j + 1) = Sp.overS L n ks[j] (sj j) := by simp only [sj]; rw [List.take_succ_eq_append_getElem (by omega), List.foldl_append]; rfl
    have r := Sp.over_ok hW n ks[j] (sj j) (by omega) g1 (fun y hy hle => g2 y hy (by omega))
    rw [e]
    refine ⟨r.toOvOk, fun y hy hlt => ?_⟩
    rcases r.back y hy with h1 | h1
    ·obtain ⟨M', e', _⟩ := r.app
     rw [e']; exact List.mem_append_left _ (g2 y h1 hlt)
    ·exact h1
  refine ⟨fun x A => ∃ (j : Nat) (so' : Sl), x = j ∧ j ≤ ks.length ∧ WkAt A p c1 c2 c3 c4 m so' L FP (sj j) ∧ Ext (WkF c4 m so) w2 A ∧ ∀ b, so'.blk b → so.blk b ∨ w2.heap.size ≤ b, fun x _ => ((ks.length : Int) - x).toNat, ⟨0, so, rfl, Nat.zero_le _, A2, Ext.refl _, fun b hb => .inl hb⟩, ?_⟩
  rintro _ w3 ⟨j, so3, rfl, hj, A3, X3, f3⟩
  unfold m_U_l1
  have hlen1 : r1.len = ks.length := by rw [hks.len, tmr_len]
  have hks3 : Lst (fun b => w1.heap.size ≤ b ∧ b < w2.heap.size) w3 1 r1 (tmr ks) := hks.ext X3 (fun b hb hx => by
   rcases hx with hx | hx | hx
   ·have := A1.b4.lt; omega
   ·have : m < w1.heap.size := hM1.lt; omega
   ·have := A1.out.lt hx; omega)
  obtain ⟨g1, g2⟩ := good j hj
  refine ⟨fun hc => ?_, fun hc => ?_⟩
  ·have hc : j < ks.length := by have := of_decide_eq_true hc; omega
   obtain ⟨a, hat, _, hv⟩ := tm_nth hks3 hc
   refine ⟨a, hat, _, hv, _, A3.b3.cell0, _, _, _, rfl, Try.call134, ?_⟩
   have hk := hkid ks[j] (List.getElem_mem _)
   have hk1 := (Sp.inP_iff.1 hk.1).1
   refine (ih ks[j] w3 (sj j) so3 (by omega) hk.1 A3 g1 (fun y hy hle => g2 y hy (by omega))).mono ?_
   rintro _ w4 ⟨rfl, so4, A4, X4, f4⟩
   refine ⟨rfl, ⟨j + 1, so4, wrap_succ hc (by omega), hc, ?_, X3.trans' X4 (fun i hi hb => ?_), fun b hb => ?_⟩, ?_⟩
   ·have e : sj (j + 1) = Sp.overS L n ks[j] (sj j) := by simp only [sj]; rw [List.take_succ_eq_append_getElem (by omega), List.foldl_append]; rfl
    rw [e]; exact A4
   ·rcases hb with hb | hb | hb
    ·exact .inl hb
    ·exact .inr (.inl hb)
    ·exact .inr (.inr ((f3 i hb).elim id (fun h => by omega)))
   ·rcases f4 b hb with h1 | h1
    ·exact f3 b h1
    ·have := X3.size; right; omega
   ·rw [wrap_succ hc (by omega)]
    show ((ks.length : Int) - ((j + 1 : Nat) : Int)).toNat < ((ks.length : Int) - (j : Int)).toNat
    omega
  ·have hc : j = ks.length := by have := of_decide_eq_false hc; omega
   subst hc
   have es : sj ks.length = Sp.overS L n (Sp.nodeOf L t).b (Sp.overS L n (Sp.nodeOf L t).a (Sp.upd st.1 t true, st.2)) := by
    rw [← Sp.overS_kids hW hin, hks0]; simp only [sj, List.take_length]
   simp only at hK hR
   rw [← es] at hK hR
   generalize sj ks.length = s3 at *
   refine ⟨so3, A3.b4.cell0, ?_⟩
   intro p1 w4 h4
   have E4 : Pure w3 w4 := Ext.new h4
   have hfew : s3.2.length ≤ 65536 := by have := Sp.pool_few g1.nd g1.inp; have := hW.ok.few; omega
   obtain ⟨s1', w5, hr5, R5, X5, f5⟩ := (A3.out.pure E4).append (P := Try.prog) (ty := 39) (c := 1) slT_tm (r := [.int .i64 t]) (Box.of_new h4).row rfl rfl (by rw [tmr_len]; omega) (by rw [tmr_len]; simp [maxLen]; omega)
   have b5 := (A3.b4.pure E4).ext X5 (fun hb => (A3.ns _ hb).2.2.2.1 rfl)
   refine ⟨s1', w5, hr5, b5.canW0 (by simp), ?_⟩
   intro w6 h6
   have E6 : Ext (· = c4.block) w5 w6 := by rw [h6]; exact Ext.setCell c4 _
   have b6 : Box w6 c4 [s1'.v] 39 := by rw [h6]; exact b5.set0
   have z1 := E1.size
   have z2 := E2.size
   have z3 := X3.size
   have z4 := E4.size
   have f5' : ∀ b, s1'.blk b → so3.blk b ∨ w3.heap.size ≤ b := fun b hb => (f5 b hb).imp_right (fun h => by omega)
   have ns' : ∀ b, s1'.blk b → b ≠ c1.block ∧ b ≠ c2.block ∧ b ≠ c3.block ∧ b ≠ c4.block ∧ b ≠ m := fun b hb => (f5' b hb).elim (A3.ns b) (fun hh => by
    have q1 := A3.b1.lt; have q2 := A3.b2.lt; have q3 := A3.b3.lt; have q4 := A3.b4.lt
    have q5 : m < w3.heap.size := by obtain ⟨M', hM', _⟩ := A3.mp; exact hM'.lt
    exact ⟨by omega, by omega, by omega, by omega, by omega⟩)
   have up : ∀ {T : TypeId} {c : Addr} {vs : List Value}, Box w3 c vs T → ¬ so3.blk c.block → c.block ≠ c4.block → Box w6 c vs T := fun h h1 h2 => ((h.pure E4).ext X5 h1).ext E6 h2
   refine hK s1' w6 ⟨up A3.b1 (fun hb => (A3.ns _ hb).1 rfl) A3.n4.1.symm, up A3.b2 (fun hb => (A3.ns _ hb).2.1 rfl) A3.n4.2.1.symm, up A3.b3 (fun hb => (A3.ns _ hb).2.2.1 rfl) A3.n4.2.2.1.symm, b6, ?_, ?_, ((A3.pool.pure E4).ext X5 (fun b hb => (A3.nf b hb).2.2)).ext E6 (fun b hb e => (A3.nf b hb).1 e), A3.n4, A3.nm, ns', fun b hb => ⟨(A3.nf b hb).1, (A3.nf b hb).2.1, fun hh => (f5' b hh).elim (A3.nf b hb).2.2 (fun hh => by have := A3.pool.lt hb; omega)⟩⟩ ?_ ?_
   ·obtain ⟨M', hM', hV'⟩ := A3.mp
    exact ⟨M', ((hM'.pure E4).ext X5 (fun hb => (A3.ns _ hb).2.2.2.2 rfl)).ext E6 A3.n4.2.2.2.symm, hV'⟩
   ·show Rws _ _ _ _ (tmr (s3.2 ++ [t]))
    rw [show tmr (s3.2 ++ [t]) = tmr s3.2 ++ [[.int .i64 t]] by simp [tmr]]
    exact R5.ext E6 (fun b hb e => (ns' b hb).2.2.2.1 e)
   ·have f33 : ∀ b, so3.blk b → b < w0.heap.size → so.blk b := fun b hb hlt => (f3 b hb).elim id (fun h2 => by omega)
    refine (((E1.mono (fun b _ hb => .inr (.inl hb))).thenPure E2).trans X3).trans' ((E4.pure (F := WkF c4 m so3)).trans ((X5.mono (fun b _ hb => .inr (.inr hb))).trans (E6.mono (fun b _ e => .inl e)))) (fun i hi hb => ?_)
    rcases hb with hb | hb | hb
    ·exact .inl hb
    ·exact .inr (.inl hb)
    ·exact .inr (.inr (f33 i hb hi))
   ·intro b hb
    rcases f5' b hb with h1 | h1
    ·exact (f3 b h1).imp_right (fun h => by omega)
    ·right; omega
 ·have hyes' : t ∈ M := by have := look_mem hyes; simp [umap] at this; exact this
  have hv : st.1 t = true := by rw [hV]; simpa using hyes'
  rw [Sp.overS, if_neg (by simp [hv])] at hK
  refine ⟨some m, h.b1.cell0, 1, hl, Br.t (by simp) ?_⟩
  exact hK so w0 h (Ext.refl _) (fun b hb => .inl hb)
theorem c_subs (p : Addr) (t : Int) (w0 : World) {L : Sp.Pool} {FP : NP} (hW : Sp.Wf L) (hP : PoolAt w0 p L FP) :
  Calls Try.prog 86 #[.pointer (some p), .int .i64 t] w0 (fun e w' => ∃ r : Sl, e = .returned r.v ∧ RetO w0 32 1 (tmr (Sp.subs L t)) r w') := by
 refine w_J2 _ _ w0 (fun r w' => RetO w0 32 1 (tmr (Sp.subs L t)) r w') ?_
 unfold m_J2
 intro p2 w1 h1 p3 w2 h2 p4 w3 h3 p5 w4 h4
 have B2 := Box.of_new h1
 have B3 := Box.of_new h2
 have M4 := IMap.of_new (f := one1) h3
 have B5 := Box.of_new h4
 have E1 : Pure w0 w1 := Ext.new h1
 have E2 : Pure w1 w2 := Ext.new h2
 have E3 : Pure w2 w3 := Ext.new h3
 have E4 : Pure w3 w4 := Ext.new h4
 have s1 := h1.at_size; have s2 := h2.at_size; have s3 := h3.at_size; have s4 := h4.at_size
 have z1 := E1.size; have z2 := E2.size; have z3 := E3.size; have z4 := E4.size
 have l1 := B2.lt; have l2 := B3.lt; have l3 := M4.lt; have l4 := B5.lt
 refine ⟨B5.canW0 (by simp), fun w5 h5 => ?_⟩
 have E5 : Ext (· = p5.block) w4 w5 := by rw [h5]; exact Ext.setCell p5 _
 have B5' : Box w5 p5 [.map (some p4.block)] 155 := by rw [h5]; exact B5.set0
 intro p6 w6 h6
 have B6 := Box.of_new h6
 have E6 : Pure w5 w6 := Ext.new h6
 have s6 := h6.at_size; have z5 := E5.size; have z6 := E6.size; have l6 := B6.lt
 refine ⟨B6.canW0 (by simp), fun w7 h7 => ?_⟩
 have E7 : Ext (· = p6.block) w6 w7 := by rw [h7]; exact Ext.setCell p6 _
 have B6' : Box w7 p6 [.func (.func 134) #[] #[.pointer (some p5), .pointer (some p2), .pointer (some p6), .pointer (some p3)]] 153 := by rw [h7]; exact B6.set0
 have z7 := E7.size
 have EE : Pure w0 w7 := ((((((E1.trans E2).trans E3).trans E4).own (by omega) E5).trans E6).own (by omega) E7)
 have up : ∀ {T : TypeId} {c : Addr} {vs : List Value}, Box w4 c vs T → c.block ≠ p5.block → c.block ≠ p6.block → Box w7 c vs T := fun h h1 h2 => ((h.ext E5 h1).pure E6).ext E7 h2
 have hnil : ∀ b, ¬ Sl.nil.blk b := fun b hb => by obtain ⟨a, h, _⟩ := hb; cases h
 have A : WkAt w7 p p5 p2 p6 p3 p4.block Sl.nil L FP (fun _ => false, []) :=
  ⟨(B5'.pure E6).ext E7 (by omega), up (((B2.pure E2).pure E3).pure E4) (by omega) (by omega), B6', up ((B3.pure E3).pure E4) (by omega) (by omega),
  ⟨[], (((M4.pure E4).ext E5 (by omega)).pure E6).ext E7 (by omega), fun x => by simp⟩, Rws.nil _ _ _, hP.pure EE, ⟨by omega, by omega, by omega, by omega⟩, ⟨by omega, by omega, by omega⟩, fun b hb => (hnil b hb).elim, fun b hb => by
   have := hP.lt hb
   exact ⟨by omega, by omega, hnil b⟩⟩
 refine ⟨some p, A.b2.cell0, ?_⟩
 refine (c_in p t w7 A.pool).mono ?_
 rintro _ _ ⟨r1, rfl, rfl, rfl⟩
 refine ⟨_, rfl, fun hc => ?_, fun hc => ?_⟩
 ·refine ⟨_, A.b3.cell0, _, _, _, rfl, Try.call134, ?_⟩
  refine (c_walk p p5 p2 p6 p3 p4.block hW (t.toNat + 1) t w7 _ Sl.nil (by omega) hc A ⟨by simp, by simp, by simp, by simp⟩ (by simp)).mono ?_
  rintro _ w8 ⟨rfl, so, A8, X8, f8⟩
  refine ⟨rfl, so, A8.b4.cell0, A8.out, fun b hb => ?_, EE.trans' X8 (fun i hi hb => ?_)⟩
  ·rcases f8 b hb with h | h
   ·exact (hnil b h).elim
   ·omega
  ·rcases hb with hb | hb | hb
   ·omega
   ·omega
   ·exact hnil _ hb
 ·have : Sp.subs L t = [] := by
   unfold Sp.subs
   rw [Sp.overS, if_neg (by simp [hc])]
  rw [this]
  exact ⟨Sl.nil, A.b4.cell0, Rws.nil _ _ _, fun b hb => (hnil b hb).elim, EE⟩
theorem c_Subs (p : Addr) (t : Int) (w0 : World) : Calls Try.prog 30 #[.pointer (some p), .int .i64 t] w0 (fun e w' => ∃ r : Value, e = .returned r ∧ ∃ p2 p3 : Addr, r = .func (.func 85) #[] #[.pointer (some p2), .pointer (some p3)] ∧ Box w' p2 [.pointer (some p)] 36 ∧ Box w' p3 [.int .i64 t] 32 ∧ Pure w0 w') := by
 refine w_E2 _ _ w0 (fun r w' => ∃ p2 p3 : Addr, r = .func (.func 85) #[] #[.pointer (some p2), .pointer (some p3)] ∧ Box w' p2 [.pointer (some p)] 36 ∧ Box w' p3 [.int .i64 t] 32 ∧ Pure w0 w') ?_
 unfold m_E2
 intro p2 w1 h1 p3 w2 h2
 exact ⟨p2, p3, rfl, (Box.of_new h1).pure (Ext.new h2), Box.of_new h2, (show Pure w0 w1 from Ext.new h1).trans (Ext.new h2)⟩
theorem it_Subs {p p2 p3 : Addr} {t : Int} {w0 : World} {L : Sp.Pool} {FP : NP} (hW : Sp.Wf L) (hP : PoolAt w0 p L FP) (B2 : Box w0 p2 [.pointer (some p)] 36) (B3 : Box w0 p3 [.int .i64 t] 32) :
  IterC Try.prog 85 #[.pointer (some p2), .pointer (some p3)] (fun z : Int => #[.int .i64 z]) (Sp.subs L t) (fun _ => True) w0 := by
 intro l J Jx W E _ hJ hJx hyield h0
 refine (w_Y (.func (.yield l) #[] #[]) p2 p3 W (fun A => ∃ X, Hst W X A X A ∧ (J (Sp.subs L t) X A ∨ ∃ pre, Jx pre X A)) ?_).mono (fun e A h => ⟨⟨_, h.1⟩, h.2⟩)
 unfold m_Y
 refine ⟨some p, (B2.pure E).cell0, t, (B3.pure E).cell0, ?_⟩
 refine (c_subs p t W hW (hP.pure E)).mono ?_
 rintro _ w1 ⟨r, rfl, hr⟩
 refine ⟨_, rfl, ?_⟩
 generalize hxs : Sp.subs L t = xs at *
 have hfew : xs.length ≤ 65536 := by rw [← hxs]; have := Sp.subs_few hW t; have := hW.ok.few; omega
 have hs1 : Hst W None W (fun b => W.heap.size ≤ b ∧ b < w1.heap.size) w1 := ⟨hr.pure.pure, fun _ h => h.elim, fun b h => .inr h.1, fun b h => h.1, fun b h => h.2, hr.pure.size⟩
 have hX : ∀ b, r.blk b → W.heap.size ≤ b ∧ b < w1.heap.size := fun b hb => ⟨hr.own b hb, hr.rows.lt hb⟩
 refine ⟨fun x A => ∃ j : Nat, x = j ∧ j ≤ xs.length ∧ Hst W (fun b => W.heap.size ≤ b ∧ b < w1.heap.size) A (fun b => W.heap.size ≤ b ∧ b < w1.heap.size) A ∧ J (xs.take j) (fun b => W.heap.size ≤ b ∧ b < w1.heap.size) A ∧ Rws A 32 1 r (tmr xs), fun x _ => ((xs.length : Int) - x).toNat, ⟨0, rfl, Nat.zero_le _, hs1.here, hJ _ _ _ _ _ h0 hs1, hr.rows⟩, ?_⟩
 rintro _ A ⟨j, rfl, hj, hA, hJA, hRA⟩
 unfold m_Y_l1
 have hlen : r.len = xs.length := by rw [hr.rows.len, tmr_len]
 refine ⟨fun hc => ?_, fun hc => ?_⟩
 ·have hc : j < xs.length := by have := of_decide_eq_true hc; omega
  obtain ⟨a, hat, _, hv⟩ := tm_nth hRA.lst hc
  refine ⟨a, hat, _, hv, l, rfl, ?_⟩
  refine (hyield (xs.take j) xs[j] _ A hJA hA ⟨xs.drop (j + 1), by rw [← List.drop_eq_getElem_cons hc, List.take_append_drop]⟩).mono ?_
  rintro e A' (⟨rfl, hk, hJ'⟩ | ⟨rfl, hk, hJ'⟩)
  ·refine ⟨_, rfl, Br.f rfl ⟨⟨j + 1, wrap_succ hc (by omega), hc, hA.again hk, by rw [List.take_succ_eq_append_getElem hc]; exact hJ', hRA.kept hk hX⟩, ?_⟩⟩
   rw [wrap_succ hc (by omega)]
   show ((xs.length : Int) - ((j + 1 : Nat) : Int)).toNat < ((xs.length : Int) - (j : Int)).toNat
   omega
  ·exact ⟨_, rfl, Br.t rfl ⟨_, hA.again hk, .inr ⟨_, hJ'⟩⟩⟩
 ·have hc : j = xs.length := by have := of_decide_eq_false hc; omega
  subst hc
  rw [List.take_length] at hJA
  exact ⟨_, hA, .inl hJA⟩
end Go.Proofs
end
section
open Go Go.SE
namespace Go.Proofs
attribute [local irreducible] Calls CallsD
def RdOut (w0 w' : World) (bs : List UInt8) (x : Option Addr) : Prop :=
 (∀ q, (rdText bs).1 = some q → ∃ p F, x = some p ∧ PoolAt w' p q F ∧ ∀ b, F b → w0.heap.size ≤ b) ∧ ((rdText bs).1 = none → x = none)
structure ReAt (w0 w : World) (q a : Addr) (s : Sl) (bs : List UInt8) (L : Sp.Pool) (r : Rd) (m : Nat) (S FP F : NP) (ps : List Nat) (pl : Sl) : Prop where
 st : StAt w q a s bs L r m S FP F
 pure : Pure w0 w
 oP : ∀ b, FP b → w0.heap.size ≤ b
 oa : w0.heap.size ≤ a.block
 rows : Rws w 3 1 pl (tmr (ps.map Int.ofNat))
 own : ∀ b, pl.blk b → w0.heap.size ≤ b ∧ ¬ FP b ∧ b ≠ a.block ∧ ¬ S b ∧ ¬ F b ∧ b ≠ m
theorem inRow_snoc : ∀ (l : List Int) (i : Nat) (z : Int), inRow i l = i + l.length → inRow i (l ++ [z]) = if z = ((i + l.length : Nat) : Int) + 1 then i + l.length + 1 else i + l.length := by
 intro l
 induction l with
 | nil => intro i z _; simp only [List.nil_append, inRow, List.length_nil, Nat.add_zero]
 | cons s l ih =>
  intro i z h
  rw [inRow] at h
  rw [List.cons_append, inRow]
  split
  ·rename_i hs
   rw [if_pos hs, List.length_cons] at h
   rw [ih (i + 1) z (by omega), List.length_cons]
   rw [show i + 1 + l.length = i + (l.length + 1) by omega]
  ·rename_i hs
   rw [if_neg hs, List.length_cons] at h; omega
theorem inRow_stop : ∀ (l : List Int) (i : Nat) (z : Int) (post : List Int), inRow i l = i + l.length → z ≠ ((i + l.length : Nat) : Int) + 1 → inRow i (l ++ z :: post) = i + l.length := by
 intro l
 induction l with
 | nil => intro i z post _ hz; simp only [List.nil_append, inRow, List.length_nil, Nat.add_zero] at *; rw [if_neg hz]
 | cons s l ih =>
  intro i z post h hz
  rw [inRow] at h
  rw [List.cons_append, inRow]
  split
  ·rename_i hs
   rw [if_pos hs, List.length_cons] at h
   rw [List.length_cons] at hz
   rw [ih (i + 1) z post (by omega) (by rw [show i + 1 + l.length = i + (l.length + 1) by omega]; exact hz), List.length_cons]; omega
  ·rename_i hs
   rw [if_neg hs, List.length_cons] at h; omega
theorem c_read {S0 : NP} (sb : Sl) (bs : List UInt8) (w0 : World) (hs : Lst S0 w0 1 sb (byr bs)) (hz : sb.a = none → sb = Sl.nil) :
  Calls Try.prog 77 #[sb.v] w0 (fun e w' => ∃ x : Option Addr, ∃ y z : Int, e = .returned (.tuple #[.pointer x, .int .i64 y, .int .i64 z]) ∧ (y = (rdText bs).2.1 ∧ z = ((rdText bs).2.2 : Int) ∧ RdOut w0 w' bs x ∧ Pure w0 w')) := by
 refine w_W sb w0 (fun x y z w' => y = (rdText bs).2.1 ∧ z = ((rdText bs).2.2 : Int) ∧ RdOut w0 w' bs x ∧ Pure w0 w') ?_
 unfold m_W
 have hl : sb.len = bs.length := by rw [hs.len, byr_len]
 have bad : ∀ (e : Int) (n : Nat) (w' : World), rdText bs = (none, e, n) → Pure w0 w' → e = (rdText bs).2.1 ∧ (n : Int) = ((rdText bs).2.2 : Int) ∧ RdOut w0 w' bs none ∧ Pure w0 w' := fun e n w' h E => by
  rw [h]; exact ⟨rfl, rfl, ⟨fun q hq => (by rw [h] at hq; cases hq), fun _ => rfl⟩, E⟩
 refine ⟨fun hc => ?_, fun hc => ?_⟩
 ·have hc : 4096 < bs.length := by have := of_decide_eq_true hc; omega
  exact bad 1 0 w0 (by unfold rdText; rw [if_pos hc]) (Ext.refl _)
 have hc : bs.length ≤ 4096 := by have := of_decide_eq_false hc; omega
 refine ⟨fun hc2 => ?_, fun hc2 => ?_⟩
 ·have hc2 : bs.length = 0 := by have := beq_iff_eq.1 hc2; omega
  exact bad 3 0 w0 (by unfold rdText; rw [if_neg (by omega), if_pos hc2]) (Ext.refl _)
 have hc2 : bs.length ≠ 0 := by have := beq_eq_false_iff_ne.1 hc2; omega
 have htxt : rdText bs = rdGo bs bs.length [] ⟨0, 0, 0⟩ [] := by unfold rdText; rw [if_neg (by omega), if_neg hc2]
 refine (c_New w0).mono ?_
 rintro _ w1 ⟨_, rfl, q, rfl, E1, FP0, hP, hFP⟩
 refine ⟨_, rfl, E1.keptP, ?_⟩
 refine (c_cNew sb bs w1 (hs.pure E1) hz (by omega)).mono ?_
 rintro _ w2 ⟨_, rfl, a, s, rfl, hR, E2, ha, hsb⟩
 refine ⟨_, rfl, E2.keptP, ?_⟩
 refine (c_kinds w2).mono ?_
 rintro _ w3 ⟨_, rfl, m, F, rfl, hK, E3, hm, hF⟩
 refine ⟨_, rfl, E3.keptP, ?_⟩
 have z1 := E1.size; have z2 := E2.size; have z3 := E3.size
 have la : a.block < w2.heap.size := hR.box.lt
 have hnil : ∀ b, ¬ Sl.nil.blk b := fun b hb => by obtain ⟨a, h, _⟩ := hb; cases h
 have R3 : ReAt w0 w3 q a s bs [] ⟨0, 0, 0⟩ m s.blk FP0 F [] Sl.nil :=
  ⟨⟨(hP.pure E2).pure E3, hR.pure E3, hK, fun b hb => by have := hsb b hb; omega, by omega, fun b hb => by have h1 := hP.lt hb; exact ⟨by omega, fun hh => by have := hsb b hh; omega, fun hh => by have := hF b hh; omega, by omega⟩, fun b hb => by have := hF b hb; exact ⟨by omega, fun hh => by have := hsb b hh; omega⟩, by omega, fun hh => by have := hsb _ hh; omega⟩, (E1.trans E2).trans E3, hFP, by omega, Rws.nil _ _ _, fun b hb => (hnil b hb).elim⟩
 refine ⟨fun pl Hl w => ∃ (L : Sp.Pool) (r : Rd) (ps : List Nat) (FP : NP) (n : Nat), Hl = None ∧ ReAt w0 w q a s bs L r m s.blk FP F ps pl ∧ Sp.Wf L ∧ ps.length = L.length ∧ ps.length ≤ r.at_ ∧ r.at_ ≤ bs.length ∧ r.err = 0 ∧ bs.length - r.at_ ≤ n ∧ rdGo bs n L r ps = rdText bs, fun pl _ => bs.length + 1 - pl.len, ⟨[], ⟨0, 0, 0⟩, [], FP0, bs.length, rfl, R3, Sp.Wf.nil, rfl, Nat.zero_le _, Nat.zero_le _, rfl, Nat.le_refl _, htxt.symm⟩, ?_⟩
 rintro pl _ wl _ ⟨L, r, ps, FP, n, rfl, hRe, hW, hps, hpr, hra, hre, hn, hgo⟩
 unfold m_W_l1
 have hpl : pl.len = ps.length := by rw [hRe.rows.len, tmr_len, List.length_map]
 refine (c_Left a s bs r wl hRe.st.rd hra).mono ?_
 rintro _ w4 ⟨_, rfl, rfl, E4⟩
 refine ⟨_, rfl, E4.keptP, fun hc3 => ?_, fun hc3 => ?_⟩
 ·have hlt : r.at_ < bs.length := by have := of_decide_eq_true hc3; omega
  obtain ⟨n, rfl⟩ : ∃ k, n = k + 1 := ⟨n - 1, by omega⟩
  rw [rdGo, if_pos hlt] at hgo
  have S4 := hRe.st.pure E4
  refine (c_At a s bs r w4 S4.rd).mono ?_
  rintro _ _ ⟨_, rfl, rfl, rfl⟩
  refine ⟨_, rfl, Kept.refl _, ?_⟩
  refine (c_subterm q a s bs r m S4 hW.ok hlt hre).mono ?_
  rintro _ w6 ⟨_, rfl, rfl, F', hP6, hR6, E6, hF6⟩
  have z4 := E4.size; have z6 := E6.size
  have E06 : Pure w0 w6 := (hRe.pure.trans E4).trans' E6 (fun i hi hh => hh.elim (fun hh => by have := hRe.oP i hh; omega) (fun hh => by have := hRe.oa; omega))
  refine ⟨_, rfl, E6.kept (fun b hb => hb.elim), fun hc4 => ?_, fun hc4 => ?_⟩
  ·have h0 : (rdStep bs L r).2.1 ≠ 0 := bne_iff_ne.1 hc4
   rw [if_pos h0] at hgo
   exact bad _ _ _ hgo.symm E06
  ·have h0 : (rdStep bs L r).2.1 = 0 := by simpa using hc4
   rw [if_neg (by simpa using h0)] at hgo
   obtain ⟨a1, a2, a3⟩ := rdStep_at bs L r hlt hre h0
   have hw6 : Sp.Wf (rdStep bs L r).1 ∧ (rdStep bs L r).1.length = L.length + 1 := by
    rw [rdStep_eq bs L r hlt hre] at h0 ⊢
    split at h0
    ·rename_i hk
     rw [if_pos hk]
     obtain ⟨_, _, e3, e4, e5⟩ := rdIn_zero h0
     rw [e5]
     simp only
     refine ⟨Sp.make_wf hW _, ?_⟩
     have hc := (Sp.make_node e4).2.2
     unfold Sp.make at e4 ⊢
     simp only [e3] at e4 ⊢
     rw [if_neg (by rw [hc]; simp)] at e4 ⊢
     split at e4
     ·simp at e4
     ·rename_i hf; rw [if_neg hf]; simp
    ·simp at h0
   intro p1 w7 n7
   have E7 : Pure w6 w7 := Ext.new n7
   have z7 := E7.size
   have R7 : Rws w7 3 1 pl (tmr (ps.map Int.ofNat)) := ((hRe.rows.pure E4).ext E6 (fun b hb hh => hh.elim (hRe.own b hb).2.1 (hRe.own b hb).2.2.1)).pure E7
   obtain ⟨s1, w8, hr8, hR8, hE8, hb8⟩ := R7.append (P := Try.prog) (ty := 69) (c := 1) slT_int (Box.of_newA n7).row rfl rfl (by rw [tmr_len, List.length_map]; omega) (by rw [tmr_len, List.length_map]; simp only [maxLen]; omega)
   have hpw : ∀ b, pl.blk b → b < wl.heap.size := fun b hb => hRe.rows.lt hb
   have z8 := hE8.size
   have E08 : Pure w0 w8 := (E06.trans E7).trans' hE8 (fun i hi hh => by have := (hRe.own i hh).1; omega)
   have hnew : ∀ b, F' b → ¬ pl.blk b := fun b hb hh => (hF6 b hb).elim (fun h => (hRe.own b hh).2.1 h) (fun h => by have := hpw b hh; omega)
   have S0 := S4
   have S8 : StAt w8 q a s bs (rdStep bs L r).1 (rdStep bs L r).2.2 m s.blk F' F := by
    refine ⟨(hP6.pure E7).ext hE8 hnew, (hR6.pure E7).ext hE8 (fun b hb hh => (hRe.own b hh).2.2.2.1 hb) (fun hh => (hRe.own _ hh).2.2.1 rfl), ((S0.kinds.ext E6 (fun b hb hh => ?_)).pure E7).ext hE8 (fun b hb hh => ?_), fun b hb => by have := S0.lS b hb; omega, by have := S0.la; omega, fun b hb => ?_, S0.dF, S0.dm⟩
    ·rcases hb with hb | rfl
     ·exact hh.elim (fun hh => (S0.dP b hh).2.2.1 hb) (fun hh => (S0.dF b hb).1 hh)
     ·exact hh.elim (fun hh => (S0.dP _ hh).2.2.2 rfl) (fun hh => S0.dm.1 hh)
    ·rcases hb with hb | rfl
     ·exact (hRe.own b hh).2.2.2.2.1 hb
     ·exact (hRe.own _ hh).2.2.2.2.2 rfl
    ·rcases hF6 b hb with h | h
     ·exact S0.dP b h
     ·exact ⟨by have := S0.la; omega, fun hh => by have := S0.lS b hh; omega, fun hh => by have := S0.kinds.lt b hh; omega, by have := S0.kinds.mlt; omega⟩
   refine ⟨s1, w8, hr8, hE8.kept (fun b hb => hb.elim), ⟨(rdStep bs L r).1, (rdStep bs L r).2.2, ps ++ [r.at_], F', n, rfl, ⟨S8, E08, fun b hb => (hF6 b hb).elim (hRe.oP b) (fun h => by have := hRe.pure.size; omega), hRe.oa, ?_, fun b hb => ?_⟩, hw6.1, by rw [List.length_append, List.length_singleton, hw6.2]; omega, by rw [List.length_append, List.length_singleton]; omega, a2, a3, by omega, hgo⟩, ?_⟩
   ·have : tmr ((ps ++ [r.at_]).map Int.ofNat) = tmr (ps.map Int.ofNat) ++ [[.int .i64 (r.at_ : Int)]] := by simp [tmr]
    rw [this]; exact hR8
   ·rcases hb8 b hb with h | h
    ·have := hRe.own b h
     exact ⟨this.1, fun hh => hnew b hh h, this.2.2⟩
    ·have h1 := hRe.pure.size
     exact ⟨by omega, fun hh => by have := hP6.lt hh; omega, by have := S0.la; omega, fun hh => by have := S0.lS b hh; omega, fun hh => by have := S0.kinds.lt b hh; omega, by have := S0.kinds.mlt; omega⟩
   ·have h1 : s1.len = ps.length + 1 := by rw [hR8.len, List.length_append, tmr_len, List.length_map]; rfl
    show bs.length + 1 - s1.len < bs.length + 1 - pl.len
    omega
 ·have hge : ¬ r.at_ < bs.length := by have := of_decide_eq_false hc3; omega
  rw [rdGo_end hge] at hgo
  intro p2 w9 n9
  have E9 : Pure w4 w9 := Ext.new n9
  have B9 := Box.of_newA n9
  have b9 := n9.at_size
  refine ⟨B9.canW0 (by simp), id, ?_⟩
  rintro w10 e10
  have X10 : Ext (· = p2.block) w9 w10 := by rw [e10]; exact Ext.setCell _ _
  have B10 : Box w10 p2 [.int .i64 0] 3 := by rw [e10]; exact B9.set0
  have z4 := E4.size; have z9 := E9.size; have z10 := X10.size
  have E4' : Pure wl w10 := (E4.trans E9).own (by omega) X10
  have zw := hRe.pure.size
  have P10 := hRe.st.pool.pure E4'
  have R10 := hRe.rows.pure E4'
  refine (c_term_Len q w10 P10).mono ?_
  rintro _ w10 ⟨_, rfl, rfl, rfl⟩
  refine ⟨_, rfl, Kept.refl _, ?_⟩
  refine (c_Subs q L.length w10).mono ?_
  rintro _ w12 ⟨_, rfl, q2, q3, rfl, Bq2, Bq3, E12⟩
  have z12 := E12.size
  refine ⟨_, rfl, E12.keptP, _, _, rfl, Try.call85, _, _, it_Subs hW (P10.pure E12) Bq2 Bq3, ?_⟩
  have hfew := Sp.subs_few hW L.length
  have hlf := hW.ok.few
  unfold rdEnd at hgo
  simp only at hgo
  generalize hxs : Sp.subs L L.length = xs at *
  have E012 : Pure w0 w12 := (hRe.pure.trans E4').trans E12
  have vb : ∀ b, (b = p2.block ∨ FP b ∨ pl.blk b) → w0.heap.size ≤ b := fun b hb => hb.elim (fun h => by omega) (fun hb => hb.elim (hRe.oP b) (fun h => (hRe.own b h).1))
  have dP2 : ¬ FP p2.block ∧ ¬ pl.blk p2.block := ⟨fun hh => by have := hRe.st.pool.lt hh; omega, fun hh => by have := hRe.rows.lt hh; omega⟩
  refine ⟨fun pre Y A => Box A p2 [.int .i64 (pre.length : Int)] 3 ∧ inRow 0 pre = pre.length ∧ PoolAt A q L FP ∧ Rws A 3 1 pl (tmr (ps.map Int.ofNat)) ∧ (∀ b, (b = p2.block ∨ FP b ∨ pl.blk b) → ¬ Y b) ∧ Pure w0 A,
   fun pre Y A => Box A p2 [.int .i64 (inRow 0 xs : Int)] 3 ∧ PoolAt A q L FP ∧ Rws A 3 1 pl (tmr (ps.map Int.ofNat)) ∧ (∀ b, (b = p2.block ∨ FP b ∨ pl.blk b) → ¬ Y b) ∧ Pure w0 A, ⟨fun _ _ _ _ => trivial, ?_, ?_, fun _ _ _ _ _ h => h.elim⟩, ?_, ?_, ?_⟩
  ·rintro pre Y A Y' A' ⟨g1, g2, g3, g4, g5, g6⟩ hst
   have hv : ∀ b, (b = p2.block ∨ FP b ∨ pl.blk b) → ¬ Y' b := hst.disj (fun b hb => ⟨hb.elim (fun e => e ▸ g1.lt) (fun hb => hb.elim (fun h => g3.lt h) (fun h => g4.lt h)), g5 b hb⟩)
   exact ⟨g1.ext hst.ext (hv _ (.inl rfl)), g2, g3.ext hst.ext (fun b hb => hv b (.inr (.inl hb))), g4.ext hst.ext (fun b hb => hv b (.inr (.inr hb))), hv, g6.hst hst⟩
  ·rintro pre Y A Y' A' ⟨g1, g3, g4, g5, g6⟩ hst
   have hv : ∀ b, (b = p2.block ∨ FP b ∨ pl.blk b) → ¬ Y' b := hst.disj (fun b hb => ⟨hb.elim (fun e => e ▸ g1.lt) (fun hb => hb.elim (fun h => g3.lt h) (fun h => g4.lt h)), g5 b hb⟩)
   exact ⟨g1.ext hst.ext (hv _ (.inl rfl)), g3.ext hst.ext (fun b hb => hv b (.inr (.inl hb))), g4.ext hst.ext (fun b hb => hv b (.inr (.inr hb))), hv, g6.hst hst⟩
  ·exact ⟨B10.pure E12, rfl, P10.pure E12, R10.pure E12, fun _ _ h => h, E012⟩
  ·rintro pre z Y A ⟨g1, g2, g3, g4, g5, g6⟩ hsA ⟨post, hpost⟩
   have hpl2 : pre.length < 65536 := by have := congrArg List.length hpost; simp only [List.length_append, List.length_cons] at this; omega
   have hw : IntKind.i64.wrap ((pre.length : Int) + 1) = ((pre.length + 1 : Nat) : Int) := wrap_succ (n := pre.length + 1) (by omega) (by omega)
   refine ⟨_, g1.cell0, fun hc => ?_, fun hc => ?_⟩
   ·have hc : z ≠ ((pre.length + 1 : Nat) : Int) := by rw [hw] at hc; exact bne_iff_ne.1 hc
    have hst := inRow_stop pre 0 z post (by omega) (by omega)
    rw [← hpost, Nat.zero_add] at hst
    exact ⟨Kept.refl _, by rw [hst]; exact g1, g3, g4, g5, g6⟩
   ·have hc : z = ((pre.length + 1 : Nat) : Int) := by rw [hw] at hc; simpa using hc
    have hsn := inRow_snoc pre 0 z (by omega)
    rw [if_pos (by omega)] at hsn
    refine ⟨_, g1.cell0, g1.canW0 (by simp), id, ?_⟩
    rintro w13 e13
    have X13 : Ext (· = p2.block) A w13 := by rw [e13]; exact Ext.setCell _ _
    have B13 : Box w13 p2 [.int .i64 ((pre ++ [z]).length : Int)] 3 := by
     rw [e13, List.length_append, List.length_singleton, ← hw]; exact g1.set0
    exact ⟨X13.kept (fun b hb e => g5 b (.inl e) hb), B13, by rw [hsn, List.length_append, List.length_singleton]; omega, g3.ext X13 (fun b hb e => dP2.1 (e ▸ hb)), g4.ext X13 (fun b hb e => dP2.2 (e ▸ hb)), g5, g6.trans' X13 (fun i hi e => by omega)⟩
  ·rintro H1 w14 hs14 _ _ hI
   have hI : Box w14 p2 [.int .i64 (inRow 0 xs : Int)] 3 ∧ PoolAt w14 q L FP ∧ Rws w14 3 1 pl (tmr (ps.map Int.ofNat)) ∧ (∀ b, (b = p2.block ∨ FP b ∨ pl.blk b) → ¬ H1 b) ∧ Pure w0 w14 := by
    rcases hI with ⟨g1, g2, g3, g4, g5, g6⟩ | ⟨_, g1, g3, g4, g5, g6⟩
    ·exact ⟨by rw [g2]; exact g1, g3, g4, g5, g6⟩
    ·exact ⟨g1, g3, g4, g5, g6⟩
   obtain ⟨g1, g3, g4, g5, g6⟩ := hI
   refine ⟨_, g1.cell0, fun hc => ?_, fun hc => ?_⟩
   ·have hc := lt_of_dec hpl hc
    rw [dif_pos hc] at hgo
    intro w15 hs15
    have hv15 : ∀ b, (b = p2.block ∨ FP b ∨ pl.blk b) → ¬ H1 b := g5
    have g1' := g1.ext hs15.ext (hv15 _ (.inl rfl))
    have g4' := g4.ext hs15.ext (fun b hb => hv15 b (.inr (.inr hb)))
    obtain ⟨a1, hat, _, hv5⟩ := tm_nth g4'.lst (j := inRow 0 xs) (by simpa using hc)
    refine ⟨_, g1'.cell0, a1, hat, _, hv5, fun w16 hs16 => ?_⟩
    have := bad _ _ w16 hgo.symm ((g6.hst hs15).hst hs16)
    rw [List.getElem_map]
    exact this
   ·have hc : ¬ inRow 0 xs < ps.length := by have := of_decide_eq_false hc; omega
    rw [dif_neg hc] at hgo
    intro w17 hs17
    have hF17 : PoolAt w17 q L FP := g3.ext hs17.ext (fun b hb => g5 b (.inr (.inl hb)))
    rw [← hgo]
    exact ⟨rfl, rfl, ⟨fun q' hq' => by rw [← hgo] at hq'; cases hq'; exact ⟨q, FP, rfl, hF17, hRe.oP⟩, fun hn => by rw [← hgo] at hn; cases hn⟩, g6.hst hs17⟩
theorem RdOut.pool {w0 w' : World} {bs : List UInt8} {x : Option Addr} (h : RdOut w0 w' bs x) {q : Sp.Pool} (hq : (rdText bs).1 = some q) : ∃ p F, x = some p ∧ PoolAt w' p q F ∧ ∀ b, F b → w0.heap.size ≤ b := h.1 q hq
theorem c_Check {S0 : NP} (sb : Sl) (bs : List UInt8) (w0 : World) (hs : Lst S0 w0 1 sb (byr bs)) (hz : sb.a = none → sb = Sl.nil) :
  Calls Try.prog 81 #[sb.v] w0 (fun e w' => ∃ y z : Int, e = .returned (.tuple #[.int .i64 y, .int .i64 z]) ∧ (y = (rdText bs).2.1 ∧ z = ((rdText bs).2.2 : Int) ∧ Pure w0 w')) := by
 refine w_K1 sb w0 (fun y z w' => y = (rdText bs).2.1 ∧ z = ((rdText bs).2.2 : Int) ∧ Pure w0 w') ?_
 unfold m_K1
 refine (c_read sb bs w0 hs hz).mono ?_
 rintro _ w1 ⟨x, y, z, rfl, hy, hz, _, E⟩
 exact ⟨_, _, _, rfl, hy, hz, E⟩
end Go.Proofs
end
