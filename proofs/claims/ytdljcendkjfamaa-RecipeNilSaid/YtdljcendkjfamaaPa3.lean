import Derived.Test.YtdljcendkjfamaaPa2
import Derived.Test.YtdljcendkjfamaaPa1
import Derived.Test.YtdljcendkjfamaaPa0
import Derived.Test.YtdljcendkjfamaaProg
import Derived.KernelRfl
import Derived.ProofKit
import Derived.Carry
import Derived.OpenShut
import Derived.Stop.Joined
section
open Go Go.SE
namespace Go.Proofs
attribute [local irreducible] Calls
theorem slT_node : SlType Try.prog 65 105 7 64 := by
 refine ⟨Try.underlying65, ⟨Try.t105, _, by kernel_rfl, (by kernel_rfl : Try.t105.zero = some (.agg #[.int .i64 0, .int .i64 0, .int .i64 0, .int .u64 0, .string ⟨#[]⟩, .int .i64 0, .int .i64 0])), by kernel_rfl, by kernel_rfl, rfl⟩, by omega⟩
theorem slT_int : SlType Try.prog 66 3 1 8 := by
 refine ⟨Try.underlying66, ⟨Try.t3, _, by kernel_rfl, (by kernel_rfl : Try.t3.zero = some (.int .i64 0)), by kernel_rfl, by kernel_rfl, rfl⟩, by omega⟩
def rnode (e : Sp.Ent) : List Value := nrow e.node
def rsize (e : Sp.Ent) : List Value := [.int .i64 e.size]
def rdepth (e : Sp.Ent) : List Value := [.int .i64 e.depth]
structure PoolRS (w : World) (p : Addr) (L : Sp.Pool) (s1 s2 s3 : Sl) : Prop where
 box : Box w p [s1.v, s2.v, s3.v] 68
 r1 : Rws w 105 7 s1 (L.map rnode)
 r2 : Rws w 3 1 s2 (L.map rsize)
 r3 : Rws w 3 1 s3 (L.map rdepth)
 n1 : ¬ s1.blk p.block
 n2 : ¬ s2.blk p.block
 n3 : ¬ s3.blk p.block
 d12 : ∀ b, s1.blk b → ¬ s2.blk b
 d13 : ∀ b, s1.blk b → ¬ s3.blk b
 d23 : ∀ b, s2.blk b → ¬ s3.blk b
def PoolR (w : World) (p : Addr) (L : Sp.Pool) (F : Nat → Prop) : Prop := ∃ s1 s2 s3, PoolRS w p L s1 s2 s3 ∧ ∀ b, F b ↔ (b = p.block ∨ s1.blk b ∨ s2.blk b ∨ s3.blk b)
theorem PoolR.ext {G : Nat → Prop} {w w' : World} {p : Addr} {L : Sp.Pool} {F : Nat → Prop} (h : PoolR w p L F) (hE : Ext G w w') (hd : ∀ b, F b → ¬ G b) : PoolR w' p L F := by
 obtain ⟨s1, s2, s3, h, hF⟩ := h
 exact ⟨s1, s2, s3, ⟨h.box.ext hE (hd _ ((hF _).2 (.inl rfl))), h.r1.ext hE (fun b hb => hd _ ((hF _).2 (.inr (.inl hb)))), h.r2.ext hE (fun b hb => hd _ ((hF _).2 (.inr (.inr (.inl hb))))), h.r3.ext hE (fun b hb => hd _ ((hF _).2 (.inr (.inr (.inr hb))))), h.n1, h.n2, h.n3, h.d12, h.d13, h.d23⟩, hF⟩
theorem PoolR.pure {w w' : World} {p : Addr} {L : Sp.Pool} {F : Nat → Prop} (h : PoolR w p L F) (hE : Pure w w') : PoolR w' p L F := h.ext hE (fun _ _ h => h)
theorem PoolR.lt {w : World} {p : Addr} {L : Sp.Pool} {F : Nat → Prop} (h : PoolR w p L F) {b : Nat} (hb : F b) : b < w.heap.size := by
 obtain ⟨s1, s2, s3, h, hF⟩ := h
 rcases (hF b).1 hb with rfl | hb | hb | hb
 ·exact h.box.lt
 ·exact h.r1.lt hb
 ·exact h.r2.lt hb
 ·exact h.r3.lt hb
theorem c_ref05_New (w0 : World) : Calls Try.prog 63 #[] w0 (fun e w' => ∃ r : Option Addr, e = .returned (.pointer r) ∧ ∃ p F, r = some p ∧ PoolR w' p [] F ∧ Pure w0 w' ∧ ∀ b, F b → w0.heap.size ≤ b) := by
 refine w_ref05_New w0 (fun r w' => ∃ p F, r = some p ∧ PoolR w' p [] F ∧ Pure w0 w' ∧ ∀ b, F b → w0.heap.size ≤ b) ?_
 unfold m_ref05_New
 have hnil : ∀ b, ¬ Sl.nil.blk b := fun b hb => by obtain ⟨a, h, _⟩ := hb; cases h
 intro p w1 h1
 have b1 := Box.of_new h1
 have E1 : Pure w0 w1 := Ext.new h1
 first
  | exact ⟨p, (· = p.block), rfl, ⟨Sl.nil, Sl.nil, Sl.nil, ⟨b1, Rws.nil _ _ _, Rws.nil _ _ _, Rws.nil _ _ _, hnil _, hnil _, hnil _, fun b h => (hnil b h).elim, fun b h => (hnil b h).elim, fun b h => (hnil b h).elim⟩, fun b => by simp [hnil]⟩, E1, fun b hb => by subst hb; exact New.own (Ext.refl w0) h1⟩
  | skip
theorem c_ref05_In (p : Addr) (t : Int) (w0 : World) {L : Sp.Pool} {F : Nat → Prop} (hP : PoolR w0 p L F) : Calls Try.prog 30 #[.pointer (some p), .int .i64 t] w0 (fun e w' => ∃ r : Bool, e = .returned (.bool r) ∧ (r = Sp.inP L t ∧ w' = w0)) := by
 refine w_ref05_Pool_In _ _ w0 (fun r w' => r = Sp.inP L t ∧ w' = w0) ?_
 unfold m_ref05_Pool_In
 obtain ⟨s1, s2, s3, h, hF⟩ := hP
 have hl : s1.len = L.length := by rw [h.r1.len]; simp
 refine ⟨fun hc => ⟨p, rfl, s1, h.box.cell0, ?_, rfl⟩, fun hc => ⟨?_, rfl⟩⟩
 ·have := of_decide_eq_true hc
  rw [hl]; simp [Sp.inP, this]
 ·have := of_decide_eq_false hc
  simp [Sp.inP]; omega
theorem PoolRS.at1 {w : World} {p : Addr} {L : Sp.Pool} {s1 s2 s3 : Sl} (h : PoolRS w p L s1 s2 s3) {t : Int} (ht : Sp.inP L t = true) (hok : Sp.Ok L) : ∃ e, Sp.get L t = some e ∧
  (∃ a, At s1 (IntKind.i64.wrap (t - 1)) 7 a ∧ Row w a (rnode e)) ∧ (∃ a, At s2 (IntKind.i64.wrap (t - 1)) 1 a ∧ Row w a (rsize e)) ∧ (∃ a, At s3 (IntKind.i64.wrap (t - 1)) 1 a ∧ Row w a (rdepth e)) := by
 obtain ⟨e, he, _, hi, hLe⟩ := Sp.get_some ht
 have hin := Sp.inP_iff.1 ht
 have hf := hok.few
 have hw : IntKind.i64.wrap (t - 1) = ((t - 1).toNat : Int) := by rw [i64 (by omega) (by omega)]; omega
 obtain ⟨a1, h1, g1⟩ := h.r1.nth (j := (t - 1).toNat) hi
 obtain ⟨a2, h2, g2⟩ := h.r2.nth (j := (t - 1).toNat) hi
 obtain ⟨a3, h3, g3⟩ := h.r3.nth (j := (t - 1).toNat) hi
 rw [hLe] at g1 g2 g3
 rw [hw]
 exact ⟨e, he, ⟨a1, h1, g1⟩, ⟨a2, h2, g2⟩, ⟨a3, h3, g3⟩⟩
theorem c_ref05_Size (p : Addr) (t : Int) (w0 : World) {L : Sp.Pool} {F : Nat → Prop} (hP : PoolR w0 p L F) (hok : Sp.Ok L) : Calls Try.prog 194 #[.pointer (some p), .int .i64 t] w0 (fun e w' => ∃ r : Int, e = .returned (.int .i64 r) ∧ (r = Sp.sizeOf L t ∧ w' = w0)) := by
 refine w_ref05_Pool_Size _ _ w0 (fun r w' => r = Sp.sizeOf L t ∧ w' = w0) ?_
 unfold m_ref05_Pool_Size
 refine (c_ref05_In p t w0 hP).mono ?_
 rintro _ _ ⟨_, rfl, rfl, rfl⟩
 refine ⟨_, rfl, fun h => ⟨?_, rfl⟩, fun h => ?_⟩
 ·have h : Sp.inP L t = false := by simpa using h
  simp [Sp.sizeOf, Sp.get_none h]
 ·have h : Sp.inP L t = true := by simpa using h
  obtain ⟨s1, s2, s3, hS, hF⟩ := hP
  obtain ⟨e, he, _, ⟨a, hat, hr⟩, _⟩ := hS.at1 h hok
  exact ⟨p, rfl, s2, hS.box.cell rfl, a, hat, _, row_cell hr, by simp [Sp.sizeOf, he], rfl⟩
theorem c_ref05_Depth (p : Addr) (t : Int) (w0 : World) {L : Sp.Pool} {F : Nat → Prop} (hP : PoolR w0 p L F) (hok : Sp.Ok L) : Calls Try.prog 195 #[.pointer (some p), .int .i64 t] w0 (fun e w' => ∃ r : Int, e = .returned (.int .i64 r) ∧ (r = Sp.depthOf L t ∧ w' = w0)) := by
 refine w_ref05_Pool_Depth _ _ w0 (fun r w' => r = Sp.depthOf L t ∧ w' = w0) ?_
 unfold m_ref05_Pool_Depth
 refine (c_ref05_In p t w0 hP).mono ?_
 rintro _ _ ⟨_, rfl, rfl, rfl⟩
 refine ⟨_, rfl, fun h => ⟨?_, rfl⟩, fun h => ?_⟩
 ·have h : Sp.inP L t = false := by simpa using h
  simp [Sp.depthOf, Sp.get_none h]
 ·have h : Sp.inP L t = true := by simpa using h
  obtain ⟨s1, s2, s3, hS, hF⟩ := hP
  obtain ⟨e, he, _, _, ⟨a, hat, hr⟩⟩ := hS.at1 h hok
  exact ⟨p, rfl, s3, hS.box.cell rfl, a, hat, _, row_cell hr, by simp [Sp.depthOf, he], rfl⟩
theorem node_eqB (m n : Sp.Node) : ((m.kind == n.kind) && ((m.frm == n.frm) && ((m.to == n.to) && ((m.num == n.num) && ((decide (m.text = n.text)) && ((m.a == n.a) && (m.b == n.b))))))) = decide (m = n) := by
 obtain ⟨k, f, t, u, x, a, b⟩ := m; obtain ⟨k', f', t', u', x', a', b'⟩ := n
 rw [Bool.eq_iff_iff]; simp
theorem c_ref05_Has (p : Addr) (n : Sp.Node) (w0 : World) {L : Sp.Pool} {F : Nat → Prop} (hP : PoolR w0 p L F) (hok : Sp.Ok L) : Calls Try.prog 196 #[.pointer (some p), nkey n] w0
  (fun e w' => ∃ r : Int, ∃ ok : Bool, e = .returned (.tuple #[.int .i64 r, .bool ok]) ∧ ((match Sp.find L n with | some i => r = (i : Int) + 1 ∧ ok = true | none => r = 0 ∧ ok = false) ∧ Pure w0 w')) := by
 obtain ⟨k, f, t, u, x, a, b⟩ := n
 generalize hn : (⟨k, f, t, u, x, a, b⟩ : Sp.Node) = n
 have hnk : nkey n = .agg #[.int .i64 k, .int .i64 f, .int .i64 t, .int .u64 u, .string x, .int .i64 a, .int .i64 b] := by rw [← hn]; rfl
 rw [hnk]
 suffices key : ∀ K : Int → Bool → World → Prop, (∀ r ok w', ((match Sp.find L n with | some i => r = (i : Int) + 1 ∧ ok = true | none => r = 0 ∧ ok = false) ∧ Pure w0 w') → K r ok w') → m_ref05_Pool_Has (some p) k f t u x a b w0 K from
  w_ref05_Pool_Has _ _ _ _ _ _ _ _ w0 _ (key _ (fun _ _ _ h => h))
 intro K hK
 unfold m_ref05_Pool_Has
 intro H1 w1 hs1
 refine ⟨fun i H w' => ∃ j : Nat, i = j ∧ j ≤ L.length ∧ Pure w0 w' ∧ ∀ q, q < j → ∀ e, L[q]? = some e → e.node ≠ n, fun i _ => ((L.length : Int) - i).toNat, ⟨0, rfl, Nat.zero_le _, hs1.first, fun q hq => absurd hq (by omega)⟩, ?_⟩
 rintro _ Hl wl hl ⟨j, rfl, hj, El, hno⟩
 unfold m_ref05_Pool_Has_l1
 obtain ⟨s1, s2, s3, hS, hF⟩ := hP.pure El
 have hf := hok.few
 have hlen : s1.len = L.length := by rw [hS.r1.len]; simp
 refine ⟨p, rfl, s1, hS.box.cell0, fun h => ?_, fun h => ?_⟩
 ·have hlt := lt_of_dec hlen h
  refine ⟨p, rfl, ?_⟩
  intro w2 hs2
  have E2 := El.hst hs2
  obtain ⟨s1', s2', s3', hS', _⟩ := hP.pure E2
  obtain ⟨a', hat, hr⟩ := hS'.r1.nth hlt
  refine ⟨s1', hS'.box.cell0, a', hat, _, _, _, _, _, _, _, hr, ?_⟩
  have hB := node_eqB L[j].node n
  rw [← hn] at hB
  simp only at hB
  rw [hB, hn]
  refine ⟨fun h => ?_, fun h => ?_⟩
  ·have h := of_decide_eq_true h
   rw [wrap_succ hlt (by omega)]
   refine hK _ _ _ ⟨?_, E2⟩
   have hfd : Sp.find L n = some j := by
    unfold Sp.find
    rw [List.findIdx?_eq_some_iff_getElem]
    exact ⟨hlt, by simp [h], fun q hq => by simpa using hno q hq _ (List.getElem?_eq_getElem (by omega))⟩
   rw [hfd]; exact ⟨by omega, rfl⟩
  ·have h := of_decide_eq_false h
   rw [wrap_succ hlt (by omega)]
   refine ⟨⟨j + 1, rfl, hlt, E2, fun q hq e he => ?_⟩, lt_dec hlt⟩
   by_cases hqj : q = j
   ·subst hqj; rw [List.getElem?_eq_getElem hlt] at he; cases he; exact h
   ·exact hno q (by omega) e he
 ·have hge := eq_of_dec hlen hj h
  subst hge
  refine hK _ _ _ ⟨?_, El⟩
  have hfd : Sp.find L n = none := find_none (fun e he => by
   obtain ⟨q, hq, rfl⟩ := List.mem_iff_getElem.1 he
   exact hno q hq _ (List.getElem?_eq_getElem hq))
  rw [hfd]; exact ⟨rfl, rfl⟩
end Go.Proofs
end
section
open Go Go.SE
namespace Go.Proofs
attribute [local irreducible] Calls
theorem append_in {P : Program} {t ty e : TypeId} {sz bytes : Nat} (T : SlType P t e sz bytes) {w : World} {p : Addr} {c : List Value} {Tp : TypeId} (hB : Box w p c Tp) {s : Sl} {rs : List (List Value)} (hR : Rws w e sz s rs) (hp : ¬ s.blk p.block) {a : Addr} {r : List Value} (hr : Row w a r) (hl : r.length = sz) (h1 : r.all oneCell = true) (hb : (rs.length + 1) * bytes ≤ 140737488355328) (hm : rs.length + 1 ≤ maxLen) :
  ∃ s' w', (Builtin.append_ #[t, t] ty #[s.v, (Sl.mk (some a) 1 1).v]).run P w = .ok s'.v w' ∧ Rws w' e sz s' (rs ++ [r]) ∧ Box w' p c Tp ∧ ¬ s'.blk p.block ∧ Ext s.blk w w' ∧ (∀ b, s'.blk b → s.blk b ∨ w.heap.size ≤ b) := by
 obtain ⟨s', w', hr', hR', hE, hb'⟩ := hR.append T (ty := ty) (c := 1) hr hl h1 hb hm
 exact ⟨s', w', hr', hR', hB.ext hE hp, fun h => (hb' _ h).elim hp (fun h => by have := hB.lt; omega), hE, hb'⟩
theorem plainErr_val (n : Sp.Node) : Sp.plainErr n = 53 ∨ Sp.plainErr n = 0 := by
 unfold Sp.plainErr; simp only; split
 ·exact .inl rfl
 ·exact .inr rfl
theorem c_ref05_Make (p : Addr) (n : Sp.Node) (w0 : World) {L : Sp.Pool} {F : Nat → Prop} (hP : PoolR w0 p L F) (hok : Sp.Ok L) : Calls Try.prog 137 #[.pointer (some p), nkey n] w0
  (fun e w' => ∃ r1 r2 : Int, e = .returned (.tuple #[.int .i64 r1, .int .i64 r2]) ∧ ((r1, r2) = ((Sp.make L n).1, (Sp.make L n).2.1) ∧ ∃ F', PoolR w' p (Sp.make L n).2.2 F' ∧ Ext F w0 w' ∧ ∀ b, F' b → F b ∨ w0.heap.size ≤ b)) := by
 obtain ⟨k, f, t, u, x, a, b⟩ := n
 generalize hn : (⟨k, f, t, u, x, a, b⟩ : Sp.Node) = n
 have hnk : nkey n = .agg #[.int .i64 k, .int .i64 f, .int .i64 t, .int .u64 u, .string x, .int .i64 a, .int .i64 b] := by rw [← hn]; rfl
 rw [hnk]
 suffices key : ∀ K : Int → Int → World → Prop, (∀ r1 r2 w', ((r1, r2) = ((Sp.make L n).1, (Sp.make L n).2.1) ∧ ∃ F', PoolR w' p (Sp.make L n).2.2 F' ∧ Ext F w0 w' ∧ ∀ b, F' b → F b ∨ w0.heap.size ≤ b) → K r1 r2 w') → m_ref05_Pool_Make (some p) k f t u x a b w0 K from
  w_ref05_Pool_Make _ _ _ _ _ _ _ _ w0 _ (key _ (fun _ _ _ h => h))
 intro K hK
 have hsh := ref05_shape n
 have hkd := ref05_kids k
 rw [← hn] at hsh
 simp only at hsh
 rw [hn] at hsh
 have hna : n.a = a := by rw [← hn]
 have hnb : n.b = b := by rw [← hn]
 have hnkk : n.kind = k := by rw [← hn]
 have hk := Sp.kids_le k
 have same : ∀ (r1 r2 : Int) (w' : World), Pure w0 w' → Sp.make L n = (r1, r2, L) → K r1 r2 w' := fun r1 r2 w' E h => hK _ _ _ ⟨by rw [h], F, by rw [h]; exact hP.pure E, E.pure, fun b h => .inl h⟩
 have bad : ∀ (er : Int) (w' : World), er ≠ 0 → Pure w0 w' → Sp.check L n = (0, 0, er) → K 0 er w' := fun er w' h0 E h => same 0 er w' E (by unfold Sp.make; simp [h, h0])
 unfold m_ref05_Pool_Make
 rw [hsh, hkd]
 have good : Sp.nodeErr n = 0 → Sp.check L n = (if (Sp.kidsOf n).any (fun t => !Sp.inP L t) then (0, 0, 51) else if 1 + ((Sp.kidsOf n).map (Sp.sizeOf L)).sum > 4096 ∨ (Sp.kidsOf n).foldl (fun d t => max d (Sp.depthOf L t)) 0 + 1 > 64 then (0, 0, 52) else (1 + ((Sp.kidsOf n).map (Sp.sizeOf L)).sum, (Sp.kidsOf n).foldl (fun d t => max d (Sp.depthOf L t)) 0 + 1, 0)) := by
  intro h
  unfold Sp.nodeErr at h
  unfold Sp.check
  split at h
  ·cases h
  ·rename_i h1
   simp only
   rw [if_neg h1]
   split at h
   ·cases h
   ·rename_i h2
    rw [if_neg h2, if_neg (by simpa using h)]
 refine ⟨fun h => ?_, fun h => ?_⟩
 ·intro H1 w2 hs2
  have h : Sp.nodeErr n ≠ 0 := by simpa using h
  refine bad _ _ h hs2.first ?_
  unfold Sp.nodeErr at h ⊢
  unfold Sp.check
  by_cases h1 : Sp.plainErr n ≠ 0
  ·rw [if_pos h1, if_pos h1]
   have : Sp.plainErr n = 53 := (plainErr_val n).resolve_right h1
   rw [this]
  ·rw [if_neg h1] at h ⊢
   simp only
   rw [if_neg h1]
   by_cases h2 : ((decide ((Sp.shapeOf n.kind).kids < 1) && n.a != 0) || (decide ((Sp.shapeOf n.kind).kids < 2) && n.b != 0)) = true
   ·rw [if_pos h2, if_pos h2]
   ·rw [if_neg h2] at h ⊢; rw [if_neg h2, if_pos h]
 have h0 : Sp.nodeErr n = 0 := by simpa using h
 have hchk := good h0
 have hzero : ((Sp.shapeOf k).kids < 1 → a = 0) ∧ ((Sp.shapeOf k).kids < 2 → b = 0) := by
  unfold Sp.nodeErr at h0
  split at h0
  ·cases h0
  ·split at h0
   ·cases h0
   ·rename_i _ h2
    rw [hnkk, hna, hnb] at h2
    simp at h2
    exact h2
 have hz0 : Sp.inP L 0 = false := by simp [Sp.inP]
 have hs0 : Sp.sizeOf L 0 = 0 := by simp [Sp.sizeOf, Sp.get, hz0]
 have hd0 : Sp.depthOf L 0 = 0 := by simp [Sp.depthOf, Sp.get, hz0]
 have hsa := hok.sizeOf a
 have hsb := hok.sizeOf b
 have hda := hok.depthOf a
 have hdb := hok.depthOf b
 have hany : (Sp.kidsOf n).any (fun t => !Sp.inP L t) = ((decide (1 ≤ (Sp.shapeOf k).kids) && !Sp.inP L a) || (decide ((Sp.shapeOf k).kids = 2) && !Sp.inP L b)) := by
  unfold Sp.kidsOf; rw [hnkk, hna, hnb]
  rcases hk with h | h | h <;> rw [h] <;> simp
 have hsum : ((Sp.kidsOf n).map (Sp.sizeOf L)).sum = Sp.sizeOf L a + Sp.sizeOf L b := by
  unfold Sp.kidsOf; rw [hnkk, hna, hnb]
  rcases hk with h | h | h <;> rw [h] <;> simp
  ·rw [hzero.1 (by omega), hzero.2 (by omega), hs0]; rfl
  ·rw [hzero.2 (by omega), hs0]; omega
 have hmax : (Sp.kidsOf n).foldl (fun d t => max d (Sp.depthOf L t)) 0 = max (Sp.depthOf L a) (Sp.depthOf L b) := by
  unfold Sp.kidsOf; rw [hnkk, hna, hnb]
  rcases hk with h | h | h <;> rw [h] <;> simp
  ·rw [hzero.1 (by omega), hzero.2 (by omega), hd0]; omega
  ·rw [hzero.2 (by omega), hd0]; omega
  ·omega
 rw [hany, hsum, hmax] at hchk
 have J1 : ∀ (x1 : Bool) (H : Nat → Prop) (w : World), Hst w0 H w H w → Pure w0 w → x1 = ((decide (1 ≤ (Sp.shapeOf k).kids) && !Sp.inP L a) || (decide ((Sp.shapeOf k).kids = 2) && !Sp.inP L b)) → m_ref05_Pool_Make_j1 (some p) k f t u x a b x1 w0 H w K := by
  intro x1 H w hs E hx
  rw [← hx] at hchk
  unfold m_ref05_Pool_Make_j1
  refine ⟨fun h => bad 51 w (by omega) E (by rw [hchk, h]; rfl), fun h => ?_⟩
  rw [h, if_neg (by simp)] at hchk
  refine ⟨fun _ => True, trivial, ?_⟩
  rintro _ rfl
  have Ed : Pure w0 w.drew := E.trans (Ext.drew w)
  refine (c_ref05_Size p a w.drew (hP.pure Ed) hok).mono ?_
  rintro _ _ ⟨_, rfl, rfl, rfl⟩
  refine ⟨_, rfl, trivial, Kept.refl _, ?_⟩
  refine (c_ref05_Size p b w.drew (hP.pure Ed) hok).mono ?_
  rintro _ _ ⟨_, rfl, rfl, rfl⟩
  refine ⟨_, rfl, trivial, Kept.refl _, fun _ => True, trivial, ?_⟩
  rintro _ rfl
  have Ed2 : Pure w0 w.drew.drew := Ed.trans (Ext.drew w.drew)
  refine (c_ref05_Depth p a w.drew.drew (hP.pure Ed2) hok).mono ?_
  rintro _ _ ⟨_, rfl, rfl, rfl⟩
  refine ⟨_, rfl, trivial, Kept.refl _, ?_⟩
  refine (c_ref05_Depth p b w.drew.drew (hP.pure Ed2) hok).mono ?_
  rintro _ _ ⟨_, rfl, rfl, rfl⟩
  refine ⟨_, rfl, trivial, Kept.refl _, _, fun w' _ => run_max_int2 _ _ _ _ _ _ _, ?_⟩
  have hmx : (if Sp.depthOf L b > Sp.depthOf L a then Sp.depthOf L b else Sp.depthOf L a) = max (Sp.depthOf L a) (Sp.depthOf L b) := by
   split <;> omega
  generalize hz : (if Sp.depthOf L b > Sp.depthOf L a then Sp.depthOf L b else Sp.depthOf L a) = z at *
  have hz64 : 0 ≤ z ∧ z ≤ 64 := by rw [hmx]; omega
  have e1 : IntKind.i64.wrap (IntKind.i64.wrap (1 + Sp.sizeOf L a) + Sp.sizeOf L b) = 1 + (Sp.sizeOf L a + Sp.sizeOf L b) := by
   rw [i64 (n := 1 + Sp.sizeOf L a) (by omega) (by omega), i64 (by omega) (by omega)]; omega
  have e2 : IntKind.i64.wrap (1 + z) = z + 1 := by rw [i64 (by omega) (by omega)]; omega
  rw [e1, e2]
  rw [← hmx] at hchk
  rintro y1 rfl
  have hsx : Hst w0 H w.drew.drew H w.drew.drew := (hs.drew.here.drew).here
  refine ⟨fun h => ?_, fun h => ?_⟩
  ·intro H2 w10 hs10
   refine bad 52 w10 (by omega) (Ed2.hst hs10) ?_
   rw [hchk, if_pos (by simpa using h)]
  ·intro H2 w10 hs10
   have hck : Sp.check L n = (1 + (Sp.sizeOf L a + Sp.sizeOf L b), z + 1, 0) := by rw [hchk, if_neg (by simp at h; omega)]
   have E10 := Ed2.hst hs10
   rw [← hnk]
   refine (c_ref05_Has p n w10 (hP.pure E10) hok).mono ?_
   rintro _ w11 ⟨r, ok, rfl, hfd, E11⟩
   refine ⟨_, _, rfl, E11.keptP, ?_⟩
   have E11' := E10.trans E11
   have hs11 : Hst w0 H2 w11 H2 w11 := hs10.again E11.keptP
   cases hf : Sp.find L n with
   | some i =>
    rw [hf] at hfd
    obtain ⟨rfl, rfl⟩ := hfd
    exact Br.t rfl (same _ _ _ E11' (by unfold Sp.make; simp [hck, hf]))
   | none =>
    rw [hf] at hfd
    obtain ⟨rfl, rfl⟩ := hfd
    refine Br.f rfl ?_
    obtain ⟨s1, s2, s3, hS, hF⟩ := hP.pure E11'
    have hlen : s1.len = L.length := by rw [hS.r1.len]; simp
    refine ⟨p, rfl, s1, hS.box.cell0, fun h => ?_, fun h => ?_⟩
    ·have h2 : 65536 ≤ L.length := by have h := of_decide_eq_true h; omega
     exact same _ _ _ E11' (by unfold Sp.make; simp [hck, hf, h2])
    ·have h2 : ¬ 65536 ≤ L.length := by have h := of_decide_eq_false h; omega
     have hmk : Sp.make L n = ((L.length : Int) + 1, 0, L ++ [⟨n, 1 + (Sp.sizeOf L a + Sp.sizeOf L b), z + 1⟩]) := by unfold Sp.make; simp [hck, hf, h2]
     have hvis : ∀ b, F b → ¬ H2 b := fun b hb h2 => by have := hP.lt hb; have := hs11.old b h2; omega
     have hpF : F p.block := (hF _).2 (.inl rfl)
     refine ⟨fun w' => w'.cell? p = some s1.v, hS.box.cell0, ?_⟩
     rintro _ rfl
     have E12 : Pure w11 w11.drew := Ext.drew w11
     refine ⟨p, rfl, s1, fun w' h' => h', ?_⟩
     intro p3 w13 h13
     have E13 : Pure w11 w13 := E12.trans (Ext.new h13)
     have B13 := hS.box.pure E13
     refine ⟨B13.cell0, ?_⟩
     obtain ⟨t1, w14, hr14, R14, B14, np1, X14, nb1⟩ := append_in (P := Try.prog) (ty := 65) slT_node B13 (hS.r1.pure E13) hS.n1 (a := p3) (r := nrow n) (by rw [← hn]; exact (Box.of_new h13).row) rfl rfl (by simp; omega) (by simp [maxLen]; omega)
     refine ⟨t1, w14, hr14, B14.cell0, X14.kept (fun b hb h => hvis b ((hF b).2 (.inr (.inl h))) hb), p, rfl, B14.canW0 (by simp), hvis _ hpF, ?_⟩
     rintro w15 hw15
     have B15 : Box w15 p [t1.v, s2.v, s3.v] 68 := by rw [hw15]; exact B14.set0
     have X15 : Ext (· = p.block) w14 w15 := by rw [hw15]; exact Ext.setCell p _
     clear hw15
     have R15 := R14.ext X15 (fun b hb e => np1 (e ▸ hb))
     have R2 := ((hS.r2.pure E13).ext X14 (fun b h2 h1 => hS.d12 b h1 h2)).ext X15 (fun b hb e => hS.n2 (e ▸ hb))
     have R3 := ((hS.r3.pure E13).ext X14 (fun b h2 h1 => hS.d13 b h1 h2)).ext X15 (fun b hb e => hS.n3 (e ▸ hb))
     have d12' : ∀ b, t1.blk b → ¬ s2.blk b := fun b hb h2 => (nb1 b hb).elim (fun h => hS.d12 b h h2) (fun h => by have := hS.r2.lt h2; have := E13.size; omega)
     have d13' : ∀ b, t1.blk b → ¬ s3.blk b := fun b hb h2 => (nb1 b hb).elim (fun h => hS.d13 b h h2) (fun h => by have := hS.r3.lt h2; have := E13.size; omega)
     refine ⟨p, rfl, s2, B15.cell rfl, ?_⟩
     intro p4 w16 h16
     have E16 : Pure w15 w16 := Ext.new h16
     have B16 := B15.pure E16
     obtain ⟨t2, w17, hr17, R17, B17, np2, X17, nb2⟩ := append_in (P := Try.prog) (ty := 66) slT_int B16 (R2.pure E16) hS.n2 (a := p4) (r := [.int .i64 (1 + (Sp.sizeOf L a + Sp.sizeOf L b))]) (Box.of_new h16).row rfl rfl (by simp; omega) (by simp [maxLen]; omega)
     refine ⟨t2, w17, hr17, X17.kept (fun b hb h => hvis b ((hF b).2 (.inr (.inr (.inl h)))) hb), p, rfl, B17.canW (by simp), by rw [add_block]; exact hvis _ hpF, ?_⟩
     rintro w18 hw18
     have B18 : Box w18 p [t1.v, t2.v, s3.v] 68 := by rw [hw18]; exact B17.set 1 _
     have X18 : Ext (· = p.block) w17 w18 := by rw [hw18]; have := Ext.setCell (w := w17) (p.add 1) t2.v; rw [add_block] at this; exact this
     clear hw18
     have Q1 := ((R15.pure E16).ext X17 (fun b h1 h2 => d12' b h1 h2)).ext X18 (fun b hb e => np1 (e ▸ hb))
     have Q2 := R17.ext X18 (fun b hb e => np2 (e ▸ hb))
     have Q3 := ((R3.pure E16).ext X17 (fun b h3 h2 => hS.d23 b h2 h3)).ext X18 (fun b hb e => hS.n3 (e ▸ hb))
     have d12'' : ∀ b, t1.blk b → ¬ t2.blk b := fun b hb h2 => (nb2 b h2).elim (fun h => d12' b hb h) (fun h => by have := (R15.pure E16).lt hb; omega)
     have d23' : ∀ b, t2.blk b → ¬ s3.blk b := fun b hb h2 => (nb2 b hb).elim (fun h => hS.d23 b h h2) (fun h => by have := (R3.pure E16).lt h2; omega)
     refine ⟨p, rfl, s3, B18.cell rfl, ?_⟩
     intro p5 w19 h19
     have E19 : Pure w18 w19 := Ext.new h19
     have B19 := B18.pure E19
     obtain ⟨t3, w20, hr20, R20, B20, np3, X20, nb3⟩ := append_in (P := Try.prog) (ty := 66) slT_int B19 (Q3.pure E19) hS.n3 (a := p5) (r := [.int .i64 (z + 1)]) (Box.of_new h19).row rfl rfl (by simp; omega) (by simp [maxLen]; omega)
     refine ⟨t3, w20, hr20, X20.kept (fun b hb h => hvis b ((hF b).2 (.inr (.inr (.inr h)))) hb), p, rfl, B20.canW (by simp), by rw [add_block]; exact hvis _ hpF, ?_⟩
     rintro w21 hw21
     have B21 : Box w21 p [t1.v, t2.v, t3.v] 68 := by rw [hw21]; exact B20.set 2 _
     have X21 : Ext (· = p.block) w20 w21 := by rw [hw21]; have := Ext.setCell (w := w20) (p.add 2) t3.v; rw [add_block] at this; exact this
     clear hw21
     have d13'' : ∀ b, t1.blk b → ¬ t3.blk b := fun b hb h2 => (nb3 b h2).elim (fun h => d13' b hb h) (fun h => by have := (Q1.pure E19).lt hb; omega)
     have d23'' : ∀ b, t2.blk b → ¬ t3.blk b := fun b hb h2 => (nb3 b h2).elim (fun h => d23' b hb h) (fun h => by have := (Q2.pure E19).lt hb; omega)
     have Z1 := ((Q1.pure E19).ext X20 (fun b h1 h2 => d13' b h1 h2)).ext X21 (fun b hb e => np1 (e ▸ hb))
     have Z2 := ((Q2.pure E19).ext X20 (fun b h1 h2 => d23' b h1 h2)).ext X21 (fun b hb e => np2 (e ▸ hb))
     have Z3 := R20.ext X21 (fun b hb e => np3 (e ▸ hb))
     have hl1 : (t1.len : Int) = L.length + 1 := by rw [R14.len]; simp
     refine ⟨p, rfl, t1, B21.cell0, ?_⟩
     rw [hl1]
     refine hK _ _ _ ⟨by rw [hmk], fun b => b = p.block ∨ t1.blk b ∨ t2.blk b ∨ t3.blk b, ?_, ?_, ?_⟩
     ·rw [hmk]
      exact ⟨t1, t2, t3, ⟨B21, by simpa [rnode] using Z1, by simpa [rsize] using Z2, by simpa [rdepth] using Z3, np1, np2, np3, d12'', d13'', d23''⟩, fun _ => Iff.rfl⟩
     ·have a1 : Ext F w0 w14 := (E11'.trans E13).pure.trans' X14 (fun i _ h => (hF i).2 (.inr (.inl h)))
      have a2 : Ext F w0 w15 := a1.trans' X15 (fun i _ h => (hF i).2 (.inl h))
      have a3 : Ext F w0 w17 := (a2.thenPure E16).trans' X17 (fun i _ h => (hF i).2 (.inr (.inr (.inl h))))
      have a4 : Ext F w0 w18 := a3.trans' X18 (fun i _ h => (hF i).2 (.inl h))
      have a5 : Ext F w0 w20 := (a4.thenPure E19).trans' X20 (fun i _ h => (hF i).2 (.inr (.inr (.inr h))))
      exact a5.trans' X21 (fun i _ h => (hF i).2 (.inl h))
     ·have z13 : w0.heap.size ≤ w13.heap.size := (E11'.trans E13).size
      have z16 : w0.heap.size ≤ w16.heap.size := by have := X14.size; have := X15.size; have := E16.size; omega
      have z19 : w0.heap.size ≤ w19.heap.size := by have := X17.size; have := X18.size; have := E19.size; omega
      rintro b (rfl | hb | hb | hb)
      ·exact .inl hpF
      ·exact (nb1 b hb).imp (fun h => (hF b).2 (.inr (.inl h))) (fun h => by omega)
      ·exact (nb2 b hb).imp (fun h => (hF b).2 (.inr (.inr (.inl h)))) (fun h => by omega)
      ·exact (nb3 b hb).imp (fun h => (hF b).2 (.inr (.inr (.inr h)))) (fun h => by omega)
 have J2 : ∀ (x2 : Bool) (H : Nat → Prop) (w : World), Hst w0 H w H w → Pure w0 w → x2 = (decide (1 ≤ (Sp.shapeOf k).kids) && !Sp.inP L a) → m_ref05_Pool_Make_j2 (some p) k f t u x a b x2 w0 H w K := by
  intro x2 H w hs E hx
  unfold m_ref05_Pool_Make_j2
  rw [hkd]
  refine ⟨fun h => J1 true H w hs E (by rw [← hx, h]; rfl), fun h => ⟨fun h2 => ?_, fun h2 => J1 false H w hs E ?_⟩⟩
  ·refine (c_ref05_In p b w (hP.pure E)).mono ?_
   rintro _ _ ⟨_, rfl, rfl, rfl⟩
   refine ⟨_, rfl, Kept.refl _, J1 _ H _ hs E ?_⟩
   have h2 : (Sp.shapeOf k).kids = 2 := by simpa using h2
   rw [← hx, h]; simp [h2]
  ·have h2 : (Sp.shapeOf k).kids ≠ 2 := by simpa using h2
   rw [← hx, h]; simp [h2]
 refine ⟨fun h => ?_, fun h => ?_⟩
 ·intro H1 w3 hs3
  refine (c_ref05_In p a w3 (hP.pure hs3.first)).mono ?_
  rintro _ _ ⟨_, rfl, rfl, rfl⟩
  refine ⟨_, rfl, Kept.refl _, J2 _ H1 _ hs3.here hs3.first ?_⟩
  have : 1 ≤ (Sp.shapeOf k).kids := by have := of_decide_eq_true h; omega
  simp [this]
 ·intro H1 w3 hs3
  refine J2 _ H1 _ hs3.here hs3.first ?_
  have : ¬ 1 ≤ (Sp.shapeOf k).kids := by have := of_decide_eq_false h; omega
  simp [this]
end Go.Proofs
end
section
open Go Go.SE
namespace Go.Proofs
attribute [local irreducible] Calls
def trow (t : Sp.Tree) (s : Sl) : List Value := [.int .i64 t.node.kind, .int .i64 t.node.frm, .int .i64 t.node.to, .int .u64 t.node.num, .string t.node.text, s.v]
inductive TreeAt (S : Nat → Prop) (w : World) : Sl → Sp.Tree → Prop
 | mk (k f t u : Int) (x : ByteArray) (ks : List Sp.Tree) (s : Sl) (rs : Nat → Sl) (len : s.len = ks.length) (fit : ks.length ≤ 9223372036854775807)
   (row : ∀ i (h : i < ks.length), ∃ a, At s i 6 a ∧ S a.block ∧ Row w a (trow ks[i] (rs i))) (kid : ∀ i (h : i < ks.length), TreeAt S w (rs i) ks[i]) : TreeAt S w s (.mk k f t u x ks)
theorem TreeAt.ext {S F : Nat → Prop} {w w' : World} {s : Sl} {t : Sp.Tree} (h : TreeAt S w s t) (hE : Ext F w w') (hd : ∀ b, S b → ¬ F b) : TreeAt S w' s t := by
 induction h with
 | mk k f t u x ks s rs len fit row kid ih =>
  exact .mk k f t u x ks s rs len fit (fun i h => let ⟨a, h1, h2, h3⟩ := row i h; ⟨a, h1, h2, hE.row h3 (hd _ h2)⟩) ih
theorem TreeAt.pure {S : Nat → Prop} {w w' : World} {s : Sl} {t : Sp.Tree} (h : TreeAt S w s t) (hE : Pure w w') : TreeAt S w' s t := h.ext hE (fun _ _ h => h)
theorem TreeAt.mono {S S' : Nat → Prop} {w : World} {s : Sl} {t : Sp.Tree} (h : TreeAt S w s t) (hd : ∀ b, S b → S' b) : TreeAt S' w s t := by
 induction h with
 | mk k f t u x ks s rs len fit row kid ih =>
  exact .mk k f t u x ks s rs len fit (fun i h => let ⟨a, h1, h2, h3⟩ := row i h; ⟨a, h1, hd _ h2, h3⟩) ih
theorem TreeAt.lt {S : Nat → Prop} {w : World} {s : Sl} {t : Sp.Tree} (h : TreeAt S w s t) : TreeAt (fun b => S b ∧ b < w.heap.size) w s t := by
 induction h with
 | mk k f t u x ks s rs len fit row kid ih =>
  refine .mk k f t u x ks s rs len fit (fun i h => let ⟨a, h1, h2, h3⟩ := row i h; ⟨a, h1, ⟨h2, ?_⟩, h3⟩) ih
  have := h3 0 (by simp [trow])
  unfold World.cell? at this
  refine Classical.byContradiction fun hge => ?_
  have : w.heap[(a.add 0).block]? = none := by rw [add_block]; exact Array.getElem?_eq_none (by omega)
  simp_all [trow]
theorem c_nodeOf (k f t u : Int) (x : ByteArray) (s : Sl) (w : World) :
  Calls Try.prog 116 #[.agg #[.int .i64 k, .int .i64 f, .int .i64 t, .int .u64 u, .string x, s.v]] w
   (fun e w' => ∃ k' : Int, ∃ f' : Int, ∃ t' : Int, ∃ u' : Int, ∃ x' : ByteArray, ∃ a : Int, ∃ b : Int, e = .returned (.agg #[.int .i64 k', .int .i64 f', .int .i64 t', .int .u64 u', .string x', .int .i64 a, .int .i64 b]) ∧ ((⟨k', f', t', u', x', a, b⟩ : Sp.Node) = ⟨k, f, t, u, x, 0, 0⟩ ∧ Pure w w')) := by
 refine w_term_nodeOf _ _ _ _ _ _ w (fun k' f' t' u' x' a b w' => (⟨k', f', t', u', x', a, b⟩ : Sp.Node) = ⟨k, f, t, u, x, 0, 0⟩ ∧ Pure w w') ?_
 unfold m_term_nodeOf
 intro p1 w1 h1 p2 w2 h2
 have E1 : Pure w w1 := Ext.new h1
 have b1 := (Box.of_new h1).pure (Ext.new h2)
 refine ⟨_, b1.cell0, _, b1.cell rfl, _, b1.cell rfl, _, b1.cell rfl, _, b1.cell rfl, ?_⟩
 exact bx 7 (Box.of_new h2) rfl rfl (fun w' b E => ⟨_, _, _, _, _, _, _, b.row, rfl, (E1.trans (Ext.new h2)).own (New.own E1 h2) E⟩)
theorem looks_mono (t : Sp.Tree) : ∀ i n : Int, 0 ≤ n → 0 ≤ (Sp.looks i n t).2 := by
 induction t using Sp.Tree.ind with
 | h k f t u x ks ih =>
  have : ∀ (ks : List Sp.Tree), (∀ i (hi : i < ks.length), ∀ j n : Int, 0 ≤ n → 0 ≤ (Sp.looks j n ks[i]).2) → ∀ i e n : Int, 0 ≤ n → 0 ≤ (Sp.looksAll i e n ks).2 := by
   intro ks
   induction ks with
   | nil => intro _ i e n h; simpa [Sp.looksAll] using h
   | cons t ts iht =>
    intro hh i e n h
    unfold Sp.looksAll
    split
    ·exact iht (fun i hi => hh (i + 1) (by simpa using hi)) _ _ _ (hh 0 (by simp) i n h)
    ·exact h
  intro i n h
  unfold Sp.looks
  split
  ·exact h
  ·split
   ·exact h
   ·exact this ks ih _ _ _ (by omega)
theorem looksAll_drop {ks : List Sp.Tree} {j : Nat} (hj : j < ks.length) (i n : Int) : Sp.looksAll i 0 n (ks.drop j) = Sp.looksAll i (Sp.looks i n ks[j]).1 (Sp.looks i n ks[j]).2 (ks.drop (j + 1)) := by
 rw [List.drop_eq_getElem_cons hj, Sp.looksAll, if_pos rfl]
theorem looksAll_bad {ks : List Sp.Tree} {e : Int} (h : e ≠ 0) (i n : Int) : Sp.looksAll i e n ks = (e, n) := by
 cases ks <;> simp [Sp.looksAll, h]
theorem c_looks {S : Nat → Prop} (q : Addr) (hq : ¬ S q.block) (T : TypeId) (t : Sp.Tree) : ∀ (s : Sl) (inside seen : Int) (w : World), 0 ≤ inside → 0 ≤ seen → TreeAt S w s t → Box w q [.int .i64 seen] T →
  Calls Try.prog 70 #[.agg (trow t s).toArray, .int .i64 inside, .pointer (some q)] w
   (fun e w' => ∃ r : Int, e = .returned (.int .i64 r) ∧ (r = (Sp.looks inside seen t).1 ∧ Box w' q [.int .i64 (Sp.looks inside seen t).2] T ∧ Ext (· = q.block) w w')) := by
 induction t using Sp.Tree.ind with
 | h k f t u x ks ih =>
 intro s inside seen w hi0 hn0 hT hB
 suffices key : ∀ K : Int → World → Prop, (∀ r w', (r = (Sp.looks inside seen (.mk k f t u x ks)).1 ∧ Box w' q [.int .i64 (Sp.looks inside seen (.mk k f t u x ks)).2] T ∧ Ext (· = q.block) w w') → K r w') → m_term_looks k f t u x s inside (some q) w K from
  w_term_looks _ _ _ _ _ _ _ _ w _ (key _ (fun _ _ h => h))
 intro K hK
 unfold m_term_looks
 intro p1 w1 h1
 have b1 := Box.of_new h1
 have E1 : Pure w w1 := Ext.new h1
 have n1 : q.block ≠ p1.block := New.ne h1 hB.blk
 have hB1 := hB.pure E1
 have hT1 := hT.pure E1
 refine ⟨q, rfl, seen, hB1.cell0, fun h => ?_, fun h => ⟨fun h' => ?_, fun h' => ?_⟩⟩
 ·have h := of_decide_eq_true h
  have : Sp.looks inside seen (.mk k f t u x ks) = (52, seen) := by rw [Sp.looks, if_pos (by omega)]
  rw [this] at hK; exact hK _ _ ⟨rfl, hB1, E1.pure⟩
 ·have h := of_decide_eq_false h; have h' := of_decide_eq_true h'
  have : Sp.looks inside seen (.mk k f t u x ks) = (52, seen) := by rw [Sp.looks, if_neg (by omega), if_pos (by omega)]
  rw [this] at hK; exact hK _ _ ⟨rfl, hB1, E1.pure⟩
 have h := of_decide_eq_false h; have h' := of_decide_eq_false h'
 have hsp : Sp.looks inside seen (.mk k f t u x ks) = Sp.looksAll (inside + 1) (Sp.ownErr ⟨k, f, t, u, x, 0, 0⟩ ks.length) (seen + 1) ks := by rw [Sp.looks, if_neg (by omega), if_neg (by omega)]
 rw [hsp] at hK
 unfold m_term_looks_j1
 refine ⟨q, rfl, seen, hB1.cell0, q, rfl, hB1.canW0 (by simp), ?_⟩
 rw [i64 (n := seen + 1) (by omega) (by omega)]
 intro w2 hw2
 have hB2 : Box w2 q [.int .i64 (seen + 1)] T := by rw [hw2]; exact hB1.set0
 have E12 : Ext (· = q.block) w1 w2 := by rw [hw2]; exact Ext.setCell q _
 clear hw2
 have b2 := b1.ext E12 (fun e => n1 e.symm)
 have hT2 := hT1.ext E12 (fun b hb e => hq (e ▸ hb))
 have E2 : Ext (· = q.block) w w2 := E1.pure.trans E12
 refine ⟨_, _, _, _, _, _, b2.row, ?_⟩
 refine (c_nodeOf _ _ _ _ _ _ w2).mono ?_
 rintro _ w3 ⟨k', f', t', u', x', a', b', rfl, hn, E23⟩
 cases hn
 refine ⟨_, _, _, _, _, _, _, rfl, ?_⟩
 intro p2 w4 h4
 have n2 : p1.block ≠ p2.block := New.ne h4 (b2.pure E23).blk
 have E24 : Pure w2 w4 := E23.trans (Ext.new h4)
 have o2 := New.own E23 h4
 refine bx 7 (Box.of_new h4) rfl rfl (fun w5 c2 E45 => ?_)
 have E25 : Pure w2 w5 := E24.own o2 E45
 refine ⟨_, _, _, _, _, _, _, c2.row, ?_⟩
 refine (c_plain _ _ _ _ _ _ _ w5).mono ?_
 rintro _ w6 ⟨s1, s2, s3, s4, s5, pe, rfl, ⟨hs, hpe⟩, E56⟩
 refine ⟨_, _, _, _, _, _, rfl, ?_⟩
 intro p3 w7 h7
 have n3 : p2.block ≠ p3.block := New.ne h7 (c2.pure E56).blk
 have E27 : Pure w2 w7 := (E25.trans E56).trans (Ext.new h7)
 have o3 := New.own (E25.trans E56) h7
 refine bx 5 (Box.of_new h7) rfl rfl (fun w8 c3 E78 => ?_)
 have E28 : Pure w2 w8 := E27.own o3 E78
 have d2 := ((c2.pure E56).pure (Ext.new h7)).ext E78 n3
 have d1 := b2.pure E28
 have hB8 := hB2.pure E28
 have hT8 := hT2.pure E28
 have E8 : Ext (· = q.block) w w8 := E2.thenPure E28
 clear E78 E27 E56 E25 E45 E24 E23 E12 c2 b2 b1 hT2 hT1 hB1 h1 h4 h7
 have hlen : s.len = ks.length := by cases hT; assumption
 have hfit : ks.length ≤ 9223372036854775807 := by cases hT; assumption
 have hsh : Sp.shapeOf k = ⟨s1, s2, s3, s4, s5⟩ := hs.symm
 have J3 : ∀ e w', Pure w8 w' → e = Sp.ownErr ⟨k, f, t, u, x, 0, 0⟩ ks.length → m_term_looks_j3 inside (some q) p1 e w' K := by
  intro e w' E hown
  rw [← hown] at hK
  unfold m_term_looks_j3
  refine ⟨fun e i w' => ∃ j : Nat, i = j ∧ j ≤ ks.length ∧ ∃ n : Int, 0 ≤ n ∧ Ext (· = q.block) w8 w' ∧ Box w' q [.int .i64 n] T ∧ Sp.looksAll (inside + 1) e n (ks.drop j) = Sp.looksAll (inside + 1) (Sp.ownErr ⟨k, f, t, u, x, 0, 0⟩ ks.length) (seen + 1) ks, fun _ i _ => ((ks.length : Int) - i).toNat, ⟨0, rfl, Nat.zero_le _, seen + 1, by omega, E.pure, hB8.pure E, by rw [hown]; rfl⟩, ?_⟩
  rintro e1 _ wl ⟨j, rfl, hj, n, hn, El, hBl, heq⟩
  unfold m_term_looks_l4
  have dl := d1.ext El (fun e => n1 e.symm)
  have hTl := hT8.ext El (fun b hb e => hq (e ▸ hb))
  rw [← hown] at heq
  have fin : ∀ n', Sp.looksAll (inside + 1) e ((seen : Int) + 1) ks = (e1, n') → n' = n → K e1 wl := by
   rintro n' h rfl
   refine hK _ _ ⟨by rw [h], by rw [h]; exact hBl, E8.trans El⟩
  refine ⟨s, dl.cell rfl, fun hlt => ⟨fun he => ?_, fun he => ?_⟩, fun hlt => ?_⟩
  ·have hlt : j < ks.length := by have h := of_decide_eq_true hlt; omega
   have he : e1 = 0 := by simpa using he
   subst he
   cases hTl with
   | mk _ _ _ _ _ _ _ rs len fit row kid =>
   obtain ⟨a, hat, ha, hr⟩ := row j hlt
   refine ⟨s, dl.cell rfl, a, hat, _, _, _, _, _, rs j, hr, ?_⟩
   rw [i64 (n := inside + 1) (by omega) (by omega)]
   refine (ih j hlt (rs j) (inside + 1) n wl (by omega) hn (kid j hlt) hBl).mono ?_
   rintro _ w9 ⟨r, rfl, rfl, hB9, E9⟩
   rw [looksAll_drop hlt] at heq
   refine ⟨_, rfl, ⟨j + 1, ?_, hlt, _, looks_mono _ _ _ hn, El.trans E9, hB9, by rw [← hown]; exact heq⟩, ?_⟩
   ·rw [i64 (by omega) (by omega)]; omega
   ·show ((ks.length : Int) - IntKind.i64.wrap ((j : Int) + 1)).toNat < ((ks.length : Int) - (j : Int)).toNat
    rw [i64 (by omega) (by omega)]; omega
  ·have he : e1 ≠ 0 := by simpa using he
   rw [looksAll_bad he] at heq
   exact fin _ heq.symm rfl
  ·have hge : j = ks.length := by have h := of_decide_eq_false hlt; omega
   rw [hge, List.drop_length, Sp.looksAll] at heq
   exact fin _ heq.symm rfl
 have J2 : ∀ e1, e1 = (if pe = 0 then if (ks.length : Int) ≠ s5 then 53 else 0 else pe) → m_term_looks_j2 inside (some q) p1 p2 p3 e1 w8 K := by
  intro e1 he1
  have hown : Sp.ownErr ⟨k, f, t, u, x, 0, 0⟩ ks.length = if e1 = 0 then Sp.fieldsErr ⟨s1, s2, s3, s4, s5⟩ ⟨k, f, t, u, x, 0, 0⟩ else e1 := by
   unfold Sp.ownErr
   simp only [hsh, ← hpe, he1]
  unfold m_term_looks_j2
  refine ⟨fun h => ⟨_, _, _, _, _, c3.row, _, _, _, _, _, _, _, d2.row, ?_⟩, fun h => J3 _ _ (Ext.refl _) ?_⟩
  ·have h : e1 = 0 := by simpa using h
   refine (c_fields _ _ _ _ _ _ _ _ _ _ _ _ _).mono ?_
   rintro _ w9 ⟨_, rfl, rfl, E9⟩
   exact ⟨_, rfl, J3 _ _ E9 (by rw [hown, if_pos h])⟩
  ·have h : e1 ≠ 0 := by simpa using h
   rw [hown, if_neg h]
 refine ⟨fun h => ⟨s, d1.cell rfl, s5, c3.cell rfl, fun h5 => J2 _ ?_, fun h5 => J2 _ ?_⟩, fun h => J2 _ ?_⟩
 ·have h : pe = 0 := by simpa using h
  have h5 : (s.len : Int) ≠ s5 := by simpa using h5
  rw [if_pos h, if_pos (by omega)]
 ·have h : pe = 0 := by simpa using h
  have h5 : (s.len : Int) = s5 := by simpa using h5
  rw [if_pos h, if_neg (by omega), h]
 ·have h : pe ≠ 0 := by simpa using h
  rw [if_neg h]
end Go.Proofs
end
section
open Go Go.SE
namespace Go.Proofs
attribute [local irreducible] Calls
theorem c_New (w : World) : Calls Try.prog 22 #[] w (fun e w' => ∃ r : Option Addr, e = .returned (.pointer r) ∧ ∃ p, r = some p ∧ Pure w w' ∧ ∃ F, PoolAt w' p [] F ∧ ∀ b, F b → w.heap.size ≤ b) := by
 refine w_term_New w (fun r w' => ∃ p, r = some p ∧ Pure w w' ∧ ∃ F, PoolAt w' p [] F ∧ ∀ b, F b → w.heap.size ≤ b) ?_
 unfold m_term_New
 intro p1 w1 h1 p2 w2 h2
 have E1 : Pure w w1 := Ext.new h1
 have m2 : CMap w2 p1.block [] := (CMap.of_new h1).ext (Ext.new h2 : Pure w1 w2) id
 have n12 : p1.block ≠ p2.block := New.ne h2 h1.block_new
 refine ⟨p2, rfl, E1.trans (Ext.new h2), fun b => b = p2.block ∨ Sl.nil.blk b ∨ b = p1.block, ⟨Sl.nil, p1.block, ⟨Box.of_new h2, by simpa using Rws.nil _ _ _, by simpa [pmap] using m2, n12, ?_, ?_⟩, fun _ => Iff.rfl⟩, ?_⟩
 ·rintro ⟨a, h, _⟩; cases h
 ·rintro ⟨a, h, _⟩; cases h
 ·rintro b (rfl | ⟨a, h, _⟩ | rfl)
  ·exact New.own E1 h2
  ·cases h
  ·exact New.own (Ext.refl w) h1
theorem pmap_take (L : Sp.Pool) (n : Nat) : pmap (L.take n) = (pmap L).take n := by
 apply List.ext_getElem?; intro i
 simp only [pmap, List.getElem?_map, List.getElem?_zipIdx, List.getElem?_take]
 split <;> simp
theorem pmap_fst (L : Sp.Pool) : (pmap L).map (·.1) = (L.map (·.node)).map nkey := by
 apply List.ext_getElem?; intro i
 simp only [pmap, List.getElem?_map, List.getElem?_zipIdx]
 cases L[i]? <;> simp
theorem c_cut (p : Addr) (n : Nat) (w : World) {L : Sp.Pool} {F : Nat → Prop} (hP : PoolAt w p L F) (hok : Sp.Ok L) (hn : n ≤ L.length) :
  Calls Try.prog 72 #[.pointer (some p), .int .i64 n] w (fun e w' => e = .returned (.tuple #[]) ∧ PoolAt w' p (L.take n) F ∧ Ext F w w') := by
 suffices key : ∀ K : World → Prop, (∀ w', PoolAt w' p (L.take n) F ∧ Ext F w w' → K w') → m_term_Pool_cut (some p) n w K from
  w_term_Pool_cut _ _ w _ (key _ (fun _ h => h))
 intro K hK
 unfold m_term_Pool_cut
 obtain ⟨s, m, hS, hF⟩ := hP
 have hfew := hok.few
 have hcap : s.len ≤ s.cap := by
  have := hS.rows.len
  rcases hS.rows.own with ⟨rfl, _⟩ | ⟨g, cur, _, _, hc, _⟩
  ·simp [Sl.nil]
  ·omega
 obtain ⟨s1, hr1, hl1⟩ := hS.rows.lst.lo (P := Try.prog) slT_entry hcap (k := .i64) (n := n) (by omega) (by simpa using hn)
 have hlen1 : s1.len = L.length - n := by rw [hl1.len]; simp
 refine ⟨p, rfl, s, hS.box.cell0, s1, hr1, ?_⟩
 refine ⟨fun x w' => ∃ j : Nat, x = j ∧ j ≤ L.length - n ∧ Ext (· = m) w w' ∧ CMap w' m ((pmap L).take n ++ (pmap L).drop (n + j)), fun x _ => ((L.length : Int) - x).toNat, ⟨0, rfl, Nat.zero_le _, Ext.refl w, by simpa using hS.map⟩, ?_⟩
 rintro _ wl ⟨j, rfl, hj, El, hml⟩
 have hboxl := hS.box.ext El hS.n1.symm
 have hrowsl := hS.rows.ext El (fun b hb e => hS.n3 (e ▸ hb))
 unfold m_term_Pool_cut_l1
 refine ⟨fun h => ?_, fun h => ?_⟩
 ·have hlt : n + j < L.length := by have h := of_decide_eq_true h; omega
  have hll := hl1.ext El (fun b hb e => hS.n3 (e ▸ hb))
  obtain ⟨a, hat, _, hrow⟩ := hll.at_ j (by simp; omega)
  generalize he : L[n + j] = e at *
  have hrow' : Row wl a (erow e) := by
   have : ((L.map erow).drop ((n : Int).toNat))[j]'(by simp; omega) = erow e := by simp [he]
   rw [this] at hrow; exact hrow
  obtain ⟨nd, sz, dp⟩ := e
  obtain ⟨k, f, t, u, x, a1, b1⟩ := nd
  refine ⟨a, hat, _, _, _, _, _, _, _, _, _, hrow', ?_⟩
  intro p2 w1 h1
  have E1 : Pure wl w1 := Ext.new h1
  have o1 := New.own (Ext.refl wl) h1
  refine bx 9 (Box.of_new h1) rfl rfl (fun w2 b2 E => ?_)
  have E2 : Pure wl w2 := E1.own o1 E
  refine ⟨fun w' => w'.cell? (p.add 1) = some (.map (some m)) ∧ Row w' p2 (nrow ⟨k, f, t, u, x, a1, b1⟩), ⟨(hboxl.pure (E2.thenPure (Ext.drew w2))).cell (i := 1) rfl, ?_⟩, ?_⟩
  ·have : Row w2 p2 (nrow ⟨k, f, t, u, x, a1, b1⟩) := fun i hi => by
    have := b2.row i (by simp [nrow] at hi ⊢; omega)
    rw [this]
    have h7 : i < 7 := by simpa [nrow] using hi
    have : i = 0 ∨ i = 1 ∨ i = 2 ∨ i = 3 ∨ i = 4 ∨ i = 5 ∨ i = 6 := by omega
    rcases this with rfl | rfl | rfl | rfl | rfl | rfl | rfl <;> rfl
   exact Ext.row (F := None) (Ext.drew w2) this id
  intro w3 hw3
  have E3 : Pure wl w3 := by rw [hw3]; exact E2.thenPure (Ext.drew w2)
  clear hw3
  refine ⟨p, rfl, some m, fun w' h => h.1, k, f, t, u, x, a1, b1, fun w' h => h.2, ?_⟩
  have hm3 := hml.ext E3 id
  have hpl : (pmap L).length = L.length := by simp [pmap]
  have hget : (pmap L)[n + j]? = some (nkey ⟨k, f, t, u, x, a1, b1⟩, .int .i64 (n + j + 1 : Nat)) := by
   simp only [pmap, List.getElem?_map, List.getElem?_zipIdx, List.getElem?_eq_getElem hlt, he]; simp
  have hidx : ((pmap L).take n ++ (pmap L).drop (n + j))[n]? = some (nkey ⟨k, f, t, u, x, a1, b1⟩, .int .i64 (n + j + 1 : Nat)) := by
   have e0 : n + j + (n - ((pmap L).take n).length) = n + j := by rw [List.length_take]; omega
   rw [List.getElem?_append_right (by rw [List.length_take]; omega), List.getElem?_drop, e0, hget]
  have hnd : ((pmap L).map (·.1)).Nodup := by
   rw [pmap_fst, List.nodup_iff_pairwise_ne, List.pairwise_map]
   exact hok.nodup.imp (fun h e => h (nkey_inj.1 e))
  have hsub : List.Sublist ((pmap L).take n ++ (pmap L).drop (n + j)) (pmap L) := by
   conv => rhs; rw [← List.take_append_drop n (pmap L)]
   refine (List.Sublist.refl _).append ?_
   have e0 : (pmap L).drop (n + j) = ((pmap L).drop n).drop j := by rw [List.drop_drop]
   rw [e0]; exact List.drop_sublist _ _
  have hnd2 : (((pmap L).take n ++ (pmap L).drop (n + j)).map (·.1)).Nodup := hnd.sublist (hsub.map _)
  obtain ⟨w4, hr4, hm4, E4⟩ := hm3.delete (P := Try.prog) (Q := 105) (z := 0) Try.underlying116 keyOK_node (fun q hq => pmap_keys q (hsub.subset hq)) ⟨_, rfl⟩ hidx (fun i u hi => by
   obtain ⟨hi1, hi2⟩ := List.getElem?_eq_some_iff.1 hi
   obtain ⟨hn1, hn2⟩ := List.getElem?_eq_some_iff.1 hidx
   refine Classical.byContradiction fun hne => ?_
   have hne := List.pairwise_iff_getElem.1 hnd2
   rcases Nat.lt_or_gt_of_ne ‹_› with hlt | hlt
   ·exact hne i n (by simpa using hi1) (by simpa using hn1) hlt (by rw [List.getElem_map, List.getElem_map, hi2, hn2])
   ·exact hne n i (by simpa using hn1) (by simpa using hi1) hlt (by rw [List.getElem_map, List.getElem_map, hi2, hn2]))
  refine ⟨w4, hr4, ⟨j + 1, ?_, by omega, (El.trans E3.pure).trans E4, ?_⟩, ?_⟩
  ·rw [i64 (by omega) (by omega)]; omega
  ·rw [List.eraseIdx_append_of_length_le (by rw [List.length_take]; omega)] at hm4
   have : n - ((pmap L).take n).length = 0 := by rw [List.length_take]; omega
   rw [this] at hm4
   have hd : ((pmap L).drop (n + j)).eraseIdx 0 = (pmap L).drop (n + (j + 1)) := by
    rw [List.drop_eq_getElem_cons (by omega)]; simp; rfl
   rw [hd] at hm4; exact hm4
  ·show ((L.length : Int) - IntKind.i64.wrap ((j : Int) + 1)).toNat < ((L.length : Int) - (j : Int)).toNat
   rw [i64 (by omega) (by omega)]; omega
 ·have hge : n + j = L.length := by have h := of_decide_eq_false h; omega
  have hpl : (pmap L).length = L.length := by simp [pmap]
  rw [hge, ← hpl, List.drop_length, List.append_nil] at hml
  obtain ⟨s2, hr2, hrows2, hb2⟩ := hrowsl.hi (P := Try.prog) slT_entry (k := .i64) (n := n) (by omega) (by simpa using hn)
  refine ⟨p, rfl, s, hboxl.cell0, s2, hr2, p, rfl, hboxl.canW0 (by simp), ?_⟩
  rintro w5 hw5
  have hbox5 : Box w5 p [s2.v, .map (some m)] 119 := by rw [hw5]; exact hboxl.set0
  have E5 : Ext (· = p.block) wl w5 := by rw [hw5]; exact Ext.setCell p _
  clear hw5
  refine hK _ ⟨⟨s2, m, ⟨hbox5, ?_, ?_, hS.n1, fun h => hS.n2 ((hb2 _).1 h), fun h => hS.n3 ((hb2 _).1 h)⟩, fun b => by rw [hF b, hb2 b]⟩, ?_⟩
  ·have := hrows2.ext E5 (fun b hb e => hS.n2 (by rw [← e]; exact (hb2 _).1 hb))
   simpa using this
  ·rw [pmap_take]; exact hml.ext E5 hS.n1
  ·exact (El.mono (fun i _ h => (hF i).2 (.inr (.inr h)))).trans' E5 (fun i _ h => (hF i).2 (.inl h))
end Go.Proofs
end
section
open Go Go.SE
namespace Go.Proofs
attribute [local irreducible] Calls
theorem growAll_bad {n : Sp.Node} {i : Nat} {L : Sp.Pool} {t : Sp.Tree} {ts : List Sp.Tree} (h : (Sp.grow L t).2.1 ≠ 0) : Sp.growAll n i L (t :: ts) = (0, (Sp.grow L t).2.1, (Sp.grow L t).2.2) := by rw [Sp.growAll, if_pos h]
theorem growAll_good {n : Sp.Node} {i : Nat} {L : Sp.Pool} {t : Sp.Tree} {ts : List Sp.Tree} (h : (Sp.grow L t).2.1 = 0) : Sp.growAll n i L (t :: ts) = Sp.growAll (if i = 0 then { n with a := (Sp.grow L t).1 } else { n with b := (Sp.grow L t).1 }) (i + 1) (Sp.grow L t).2.2 ts := by rw [Sp.growAll, if_neg (by simp [h])]
def Sp.Tree.two (t : Sp.Tree) : Prop := Sp.Tree.rec (motive_1 := fun _ => Prop) (motive_2 := fun _ => Prop) (fun _ _ _ _ _ ks h => ks.length ≤ 2 ∧ h) True (fun _ _ h1 h2 => h1 ∧ h2) t
def twoAll : List Sp.Tree → Prop
 | [] => True
 | t :: ts => Sp.Tree.two t ∧ twoAll ts
theorem two_mk {k f t u : Int} {x : ByteArray} {ks : List Sp.Tree} : Sp.Tree.two (.mk k f t u x ks) ↔ ks.length ≤ 2 ∧ twoAll ks := by
 have : ∀ ks : List Sp.Tree, (Sp.Tree.rec_1 (motive_1 := fun _ => Prop) (motive_2 := fun _ => Prop) (fun _ _ _ _ _ ks h => ks.length ≤ 2 ∧ h) True (fun _ _ h1 h2 => h1 ∧ h2) ks : Prop) = twoAll ks := by
  intro ks
  induction ks with
  | nil => rfl
  | cons t ts ih => show (Sp.Tree.two t ∧ _) = (Sp.Tree.two t ∧ _); rw [ih]
 show (ks.length ≤ 2 ∧ _) ↔ _
 rw [this]
theorem twoAll_get {ks : List Sp.Tree} (h : twoAll ks) {i : Nat} (hi : i < ks.length) : Sp.Tree.two ks[i] := by
 induction ks generalizing i with
 | nil => simp at hi
 | cons t ts ih =>
  cases i with
  | zero => exact h.1
  | succ i => exact ih h.2 (by simpa using hi)
theorem c_grow {S : Nat → Prop} (p : Addr) (t : Sp.Tree) : ∀ (s : Sl) (w : World) (L : Sp.Pool) (F : Nat → Prop), Sp.Tree.two t → TreeAt S w s t → PoolAt w p L F → Sp.Ok L → (∀ b, F b → ¬ S b) → (∀ b, S b → b < w.heap.size) →
  Calls Try.prog 71 #[.pointer (some p), .agg (trow t s).toArray] w
   (fun e w' => ∃ r1 : Int, ∃ r2 : Int, e = .returned (.tuple #[.int .i64 r1, .int .i64 r2]) ∧ ((r1, r2) = ((Sp.grow L t).1, (Sp.grow L t).2.1) ∧ ∃ F', PoolAt w' p (Sp.grow L t).2.2 F' ∧ Ext F w w' ∧ ∀ b, F' b → F b ∨ w.heap.size ≤ b)) := by
 induction t using Sp.Tree.ind with
 | h k f t u x ks ih =>
 intro s w L F h2 hT hP hok hFS hSw
 suffices key : ∀ K : Int → Int → World → Prop, (∀ r1 r2 w', ((r1, r2) = ((Sp.grow L (.mk k f t u x ks)).1, (Sp.grow L (.mk k f t u x ks)).2.1) ∧ ∃ F', PoolAt w' p (Sp.grow L (.mk k f t u x ks)).2.2 F' ∧ Ext F w w' ∧ ∀ b, F' b → F b ∨ w.heap.size ≤ b) → K r1 r2 w') → m_term_Pool_grow (some p) k f t u x s w K from
  w_term_Pool_grow _ _ _ _ _ _ _ w _ (key _ (fun _ _ _ h => h))
 intro K hK
 obtain ⟨hk2, hall⟩ := two_mk.1 h2
 unfold m_term_Pool_grow
 intro p2 w1 h1
 have b1 := Box.of_new h1
 have E1 : Pure w w1 := Ext.new h1
 refine ⟨_, _, _, _, _, _, b1.row, ?_⟩
 refine (c_nodeOf _ _ _ _ _ _ w1).mono ?_
 rintro _ w2 ⟨k', f', t', u', x', a', b', rfl, hn, E12⟩
 cases hn
 refine ⟨_, _, _, _, _, _, _, rfl, ?_⟩
 intro p3 w3 h3
 have E3 : Pure w w3 := (E1.trans E12).trans (Ext.new h3)
 have o3 := New.own (E1.trans E12) h3
 have n23 : p2.block ≠ p3.block := New.ne h3 (b1.pure E12).blk
 refine bx 7 (Box.of_new h3) rfl rfl (fun w4 b3 E34 => ?_)
 have E4 : Pure w w4 := E3.own o3 E34
 have b2 := ((b1.pure E12).pure (Ext.new h3)).ext E34 n23
 intro p4 w5 h5
 have E5 : Pure w w5 := E4.trans (Ext.new h5)
 have o4 := New.own E4 h5
 have n34 : p3.block ≠ p4.block := New.ne h5 b3.blk
 have c3 := b3.pure (Ext.new h5 : Pure w4 w5)
 have c4 := Box.of_new h5
 have c2 := b2.pure (Ext.new h5 : Pure w4 w5)
 refine ⟨s, c2.cell rfl, ?_⟩
 have hsp : Sp.grow L (.mk k f t u x ks) = Sp.growAll ⟨k, f, t, u, x, 0, 0⟩ 0 L ks := by rw [Sp.grow]
 rw [hsp] at hK
 have hlen : s.len = ks.length := by cases hT; assumption
 refine ⟨fun i w' => ∃ j : Nat, i = j ∧ j ≤ ks.length ∧ ∃ (nd : Sp.Node) (L' : Sp.Pool) (F' : Nat → Prop), Sp.growAll ⟨k, f, t, u, x, 0, 0⟩ 0 L ks = Sp.growAll nd j L' (ks.drop j) ∧ Sp.Ok L' ∧ PoolAt w' p L' F' ∧ (∀ b, F' b → F b ∨ w.heap.size ≤ b) ∧ ¬ F' p3.block ∧ ¬ F' p4.block ∧ Ext F w w' ∧ Box w' p3 (nrow nd) 105 ∧ Box w' p4 [.pointer (some (p3.add 5)), .pointer (some (p3.add 6))] 184, fun i _ => ((ks.length : Int) - i).toNat,
  ⟨0, rfl, Nat.zero_le _, ⟨k, f, t, u, x, 0, 0⟩, L, F, by simp, hok, hP.pure E5, fun b h => .inl h, fun h => by have := hP.lt h; omega, fun h => by have := hP.lt h; omega, E5.pure, c3, c4⟩, ?_⟩
 rintro _ wl ⟨j, rfl, hj, nd, L', F', heq, hok', hPl, hF', hn3, hn4, El, d3, d4⟩
 unfold m_term_Pool_grow_l1
 refine ⟨fun h => ?_, fun h => ?_⟩
 ·have hlt : j < ks.length := by have h := of_decide_eq_true h; omega
  have hTl : TreeAt S wl s (.mk k f t u x ks) := hT.ext El (fun b hs hf => hFS b hf hs)
  have hkid : ∀ i (h : i < ks.length), ∃ a r, At s i 6 a ∧ Row wl a (trow ks[i] r) ∧ TreeAt S wl r ks[i] := by
   cases hTl with
   | mk _ _ _ _ _ _ _ rs len fit row kid => exact fun i h => let ⟨a, h1, _, h3⟩ := row i h; ⟨a, rs i, h1, h3, kid i h⟩
  obtain ⟨a, r, hat, hrow, hTk⟩ := hkid j hlt
  refine ⟨a, hat, _, _, _, _, _, r, hrow, ?_⟩
  intro p5 w6 h6
  have o5 := New.own (Ext.refl wl) h6
  refine bx 6 (Box.of_new h6) rfl rfl (fun w7 b5 E67 => ?_)
  have E7 : Pure wl w7 := Ext.own (Ext.new h6) o5 E67
  refine ⟨_, _, _, _, _, r, b5.row, ?_⟩
  have hsz : w.heap.size ≤ wl.heap.size := El.size
  refine (ih j hlt r w7 L' F' (twoAll_get hall hlt) (hTk.pure E7) (hPl.pure E7) hok' (fun b hb hs => (hF' b hb).elim (fun h => hFS b h hs) (fun h => by have := hSw b hs; omega)) (fun b hs => by have := hSw b hs; have := E7.size; omega)).mono ?_
  rintro _ w8 ⟨r1, r2, rfl, hr, F8, hP8, E8, hF8⟩
  have e1 : r1 = (Sp.grow L' ks[j]).1 := congrArg Prod.fst hr
  have e2 : r2 = (Sp.grow L' ks[j]).2.1 := congrArg Prod.snd hr
  rw [List.drop_eq_getElem_cons hlt] at heq
  have hF8' : ∀ b, F8 b → F b ∨ w.heap.size ≤ b := fun b hb => (hF8 b hb).elim (hF' b) (fun h => by right; have := E7.size; omega)
  have Ew8 : Ext F w w8 := (El.thenPure E7).trans' E8 (fun i hi h => (hF' i h).elim id (fun h => by omega))
  refine ⟨_, _, rfl, fun h => ?_, fun h => ?_⟩
  ·have h : (Sp.grow L' ks[j]).2.1 ≠ 0 := by rw [← e2]; simpa using h
   rw [growAll_bad h] at heq
   refine hK _ _ _ ?_
   rw [heq]; exact ⟨by rw [e2], F8, hP8, Ew8, hF8'⟩
  ·have h : (Sp.grow L' ks[j]).2.1 = 0 := by rw [← e2]; simpa using h
   rw [growAll_good h] at heq
   have q3 := (d3.pure E7).ext E8 hn3
   have q4 := (d4.pure E7).ext E8 hn4
   have hs7 : wl.heap.size ≤ w7.heap.size := E7.size
   have n38 : ¬ F8 p3.block := fun h => (hF8 _ h).elim hn3 (fun h => by have := (d3.pure E7).lt; omega)
   have n48 : ¬ F8 p4.block := fun h => (hF8 _ h).elim hn4 (fun h => by have := (d4.pure E7).lt; omega)
   have hok8 := (Sp.grow_facts ks[j] L' hok').1
   have fin : ∀ (w9 : World) (nd' : Sp.Node), nd' = (if j = 0 then { nd with a := (Sp.grow L' ks[j]).1 } else { nd with b := (Sp.grow L' ks[j]).1 }) → Box w9 p3 (nrow nd') 105 → Ext (· = p3.block) w8 w9 →
     (∃ j' : Nat, IntKind.i64.wrap ((j : Int) + 1) = j' ∧ j' ≤ ks.length ∧ ∃ (nd : Sp.Node) (L' : Sp.Pool) (F' : Nat → Prop), Sp.growAll ⟨k, f, t, u, x, 0, 0⟩ 0 L ks = Sp.growAll nd j' L' (ks.drop j') ∧ Sp.Ok L' ∧ PoolAt w9 p L' F' ∧ (∀ b, F' b → F b ∨ w.heap.size ≤ b) ∧ ¬ F' p3.block ∧ ¬ F' p4.block ∧ Ext F w w9 ∧ Box w9 p3 (nrow nd) 105 ∧ Box w9 p4 [.pointer (some (p3.add 5)), .pointer (some (p3.add 6))] 184) ∧ ((ks.length : Int) - IntKind.i64.wrap ((j : Int) + 1)).toNat < ((ks.length : Int) - (j : Int)).toNat := by
    intro w9 nd' hnd B9 E9
    rw [i64 (by omega) (by omega)]
    refine ⟨⟨j + 1, by omega, hlt, nd', _, F8, by rw [heq, hnd], hok8, hP8.ext E9 (fun b hb e => n38 (e ▸ hb)), hF8', n38, n48, Ew8.trans' E9 (fun i hi h => by subst h; omega), B9, q4.ext E9 n34.symm⟩, by omega⟩
   have hj2 : j = 0 ∨ j = 1 := by omega
   rcases hj2 with rfl | rfl
   ·refine ⟨p4, ⟨by omega, by simp, p4, rfl, rfl⟩, some (p3.add 5), q4.cell0, p3.add 5, rfl, q3.canW (by simp [nrow]), ?_⟩
    intro w9 hw9
    refine fin w9 _ rfl ?_ ?_
    ·rw [hw9, e1]; exact q3.set 5 _
    ·rw [hw9]; have := Ext.setCell (w := w8) (p3.add 5) (.int .i64 r1); rw [add_block] at this; exact this
   ·refine ⟨p4.add 1, ⟨by omega, by simp, p4, rfl, rfl⟩, some (p3.add 6), q4.cell rfl, p3.add 6, rfl, q3.canW (by simp [nrow]), ?_⟩
    intro w9 hw9
    refine fin w9 _ rfl ?_ ?_
    ·rw [hw9, e1]; exact q3.set 6 _
    ·rw [hw9]; have := Ext.setCell (w := w8) (p3.add 6) (.int .i64 r1); rw [add_block] at this; exact this
 ·have hge : j = ks.length := by have h := of_decide_eq_false h; omega
  rw [hge, List.drop_length, Sp.growAll] at heq
  obtain ⟨k0, f0, t0, u0, x0, a0, b0⟩ := nd
  refine ⟨_, _, _, _, _, _, _, d3.row, ?_⟩
  refine (c_Make p k0 f0 t0 u0 x0 a0 b0 wl hPl hok').mono ?_
  rintro _ w9 ⟨r1, r2, rfl, hr, F9, hP9, E9, hF9⟩
  have hsz : w.heap.size ≤ wl.heap.size := El.size
  refine ⟨_, _, rfl, hK _ _ _ ?_⟩
  rw [heq]
  exact ⟨hr, F9, hP9, El.trans' E9 (fun i hi h => (hF' i h).elim id (fun h => by omega)), fun b hb => (hF9 b hb).elim (hF' b) (fun h => by right; omega)⟩
theorem looks_two (t : Sp.Tree) : ∀ i n : Int, (Sp.looks i n t).1 = 0 → Sp.Tree.two t := by
 induction t using Sp.Tree.ind with
 | h k f t u x ks ih =>
  have hA : ∀ (ks : List Sp.Tree), (∀ i (hi : i < ks.length), ∀ j n : Int, (Sp.looks j n ks[i]).1 = 0 → Sp.Tree.two ks[i]) → ∀ i e n : Int, (Sp.looksAll i e n ks).1 = 0 → e = 0 ∧ twoAll ks := by
   intro ks
   induction ks with
   | nil => intro _ i e n h; exact ⟨by simpa [Sp.looksAll] using h, trivial⟩
   | cons t ts iht =>
    intro hh i e n h
    unfold Sp.looksAll at h
    split at h
    ·rename_i he
     have := iht (fun i hi => hh (i + 1) (by simpa using hi)) _ _ _ h
     exact ⟨he, hh 0 (by simp) i n this.1, this.2⟩
    ·rename_i he; exact absurd h he
  intro i n h
  unfold Sp.looks at h
  split at h
  ·cases h
  ·split at h
   ·cases h
   ·have := hA ks ih _ _ _ h
    refine two_mk.2 ⟨?_, this.2⟩
    have ho := this.1
    unfold Sp.ownErr at ho
    simp only at ho
    have hk := Sp.kids_le k
    by_cases hp : Sp.plainErr ⟨k, f, t, u, x, 0, 0⟩ = 0
    ·rw [if_pos hp] at ho
     by_cases hl : (ks.length : Int) ≠ (Sp.shapeOf k).kids
     ·rw [if_pos hl] at ho; simp at ho
     ·omega
    ·rw [if_neg hp, if_neg hp] at ho; exact absurd ho hp
theorem c_Of {S : Nat → Prop} (p : Addr) (t : Sp.Tree) (s : Sl) (w : World) {L : Sp.Pool} {F : Nat → Prop} (hT : TreeAt S w s t) (hP : PoolAt w p L F) (hok : Sp.Ok L) (hFS : ∀ b, F b → ¬ S b) (hSw : ∀ b, S b → b < w.heap.size) :
  Calls Try.prog 23 #[.pointer (some p), .agg (trow t s).toArray] w
   (fun e w' => ∃ r1 : Int, ∃ r2 : Int, e = .returned (.tuple #[.int .i64 r1, .int .i64 r2]) ∧ ((r1, r2) = ((Sp.of L t).1, (Sp.of L t).2.1) ∧ ∃ F', PoolAt w' p (Sp.of L t).2.2 F' ∧ Ext F w w' ∧ ∀ b, F' b → F b ∨ w.heap.size ≤ b)) := by
 obtain ⟨k, f, to, u, x, ks⟩ := t
 suffices key : ∀ K : Int → Int → World → Prop, (∀ r1 r2 w', ((r1, r2) = ((Sp.of L (.mk k f to u x ks)).1, (Sp.of L (.mk k f to u x ks)).2.1) ∧ ∃ F', PoolAt w' p (Sp.of L (.mk k f to u x ks)).2.2 F' ∧ Ext F w w' ∧ ∀ b, F' b → F b ∨ w.heap.size ≤ b) → K r1 r2 w') → m_term_Pool_Of (some p) k f to u x s w K from
  w_term_Pool_Of _ _ _ _ _ _ _ w _ (key _ (fun _ _ _ h => h))
 intro K hK
 unfold m_term_Pool_Of
 intro p2 w1 h1
 have b1 := Box.of_new h1
 have E1 : Pure w w1 := Ext.new h1
 refine Br.f rfl ?_
 intro p3 w2 h2
 have E2 : Pure w w2 := E1.trans (Ext.new h2)
 have o3 := New.own E1 h2
 have c3 := Box.of_new h2
 have n23 : p2.block ≠ p3.block := New.ne h2 b1.blk
 refine ⟨c3.canW0 (by simp), ?_⟩
 intro w3 hw3
 have c3' : Box w3 p3 [.int .i64 0] 3 := by rw [hw3]; exact c3.set0
 have E23 : Ext (· = p3.block) w2 w3 := by rw [hw3]; exact Ext.setCell p3 _
 clear hw3
 have E3 : Pure w w3 := E2.own o3 E23
 have b3 := (b1.pure (Ext.new h2 : Pure w1 w2)).ext E23 n23
 refine ⟨_, _, _, _, _, s, b3.row, ?_⟩
 generalize ht : Sp.Tree.mk k f to u x ks = t at *
 have htr : (Value.agg #[.int .i64 k, .int .i64 f, .int .i64 to, .int .u64 u, .string x, s.v]) = .agg (trow t s).toArray := by rw [← ht]; rfl
 rw [htr]
 refine (c_looks p3 (fun h => by have := hSw _ h; omega) _ t s 0 0 w3 (by omega) (by omega) (hT.pure E3) c3').mono ?_
 rintro _ w4 ⟨r1, rfl, rfl, _, E34⟩
 have E4 : Pure w w4 := E3.own o3 E34
 have b4 := b3.ext E34 n23
 have same : ∀ w', Pure w w' → ∃ F', PoolAt w' p L F' ∧ Ext F w w' ∧ ∀ b, F' b → F b ∨ w.heap.size ≤ b := fun w' E => ⟨F, hP.pure E, E.pure, fun _ h => .inl h⟩
 refine ⟨_, rfl, fun h => ?_, fun h => ?_⟩
 ·have h : (Sp.looks 0 0 t).1 ≠ 0 := by simpa using h
  have : Sp.of L t = (0, (Sp.looks 0 0 t).1, L) := by rw [Sp.of, if_pos h]
  refine hK _ _ _ ?_
  rw [this]; exact ⟨rfl, same _ E4⟩
 ·have h : (Sp.looks 0 0 t).1 = 0 := by simpa using h
  have hP4 := hP.pure E4
  obtain ⟨s0, m0, hS0, hF0⟩ := id hP4
  have hl0 : s0.len = L.length := by rw [hS0.rows.len]; simp
  refine ⟨p, rfl, s0, hS0.box.cell0, _, _, _, _, _, s, b4.row, ?_⟩
  rw [htr]
  refine (c_grow p t s w4 L F (looks_two t _ _ h) (hT.pure E4) hP4 hok hFS (fun b hb => by have := hSw b hb; have := E4.size; omega)).mono ?_
  rintro _ w5 ⟨r1, r2, rfl, hr, F5, hP5, E45, hF5⟩
  have e1 : r1 = (Sp.grow L t).1 := congrArg Prod.fst hr
  have e2 : r2 = (Sp.grow L t).2.1 := congrArg Prod.snd hr
  have hs4 : w.heap.size ≤ w4.heap.size := E4.size
  have E5 : Ext F w w5 := E4.pure.trans E45
  have hF5' : ∀ b, F5 b → F b ∨ w.heap.size ≤ b := fun b hb => (hF5 b hb).elim .inl (fun h => .inr (by omega))
  refine ⟨_, _, rfl, fun h' => ?_, fun h' => ?_⟩
  ·have h' : (Sp.grow L t).2.1 ≠ 0 := by rw [← e2]; simpa using h'
   obtain ⟨hok5, M, hM⟩ := Sp.grow_facts t L hok
   rw [hl0]
   refine (c_cut p L.length w5 hP5 hok5 (by rw [hM]; simp)).mono ?_
   rintro _ w6 ⟨rfl, hP6, E56⟩
   have : Sp.of L t = (0, (Sp.grow L t).2.1, L) := by rw [Sp.of, if_neg (by simp [h]), if_pos h']
   refine ⟨rfl, hK _ _ _ ?_⟩
   rw [this]
   rw [hM, List.take_left] at hP6
   exact ⟨by rw [e2], F5, hP6, E5.trans' E56 (fun i hi h => (hF5' i h).elim id (fun h => by omega)), hF5'⟩
  ·have h' : (Sp.grow L t).2.1 = 0 := by rw [← e2]; simpa using h'
   have : Sp.of L t = ((Sp.grow L t).1, 0, (Sp.grow L t).2.2) := by rw [Sp.of, if_neg (by simp [h]), if_neg (by simp [h'])]
   refine hK _ _ _ ?_
   rw [this]
   exact ⟨by rw [e1], F5, hP5, E5, hF5'⟩
end Go.Proofs
end
section
open Go Go.SE
namespace Go.Proofs
attribute [local irreducible] Calls
theorem fieldsErr_ne (s : Sp.Shape) (n : Sp.Node) : Sp.fieldsErr s n ≠ 53 := by
 unfold Sp.fieldsErr
 split
 ·omega
 ·split <;> omega
theorem ownErr_eq (k f t u : Int) (x : ByteArray) (len : Nat) : Sp.ownErr ⟨k, f, t, u, x, 0, 0⟩ len = (if (Sp.nodeErr ⟨k, f, t, u, x, 0, 0⟩ ≠ 53 ∧ (len : Int) ≠ (Sp.shapeOf k).kids) then 53 else Sp.nodeErr ⟨k, f, t, u, x, 0, 0⟩) := by
 unfold Sp.ownErr Sp.nodeErr
 simp only
 rcases plainErr_val ⟨k, f, t, u, x, 0, 0⟩ with h | h
 ·rw [h]; simp
 ·rw [h]
  have := fieldsErr_ne (Sp.shapeOf k) ⟨k, f, t, u, x, 0, 0⟩
  by_cases h2 : (len : Int) = (Sp.shapeOf k).kids <;> simp [h2, this]
theorem c_ref05_looked {S : Nat → Prop} (q : Addr) (hq : ¬ S q.block) (T : TypeId) (t : Sp.Tree) : ∀ (s : Sl) (inside seen : Int) (w0 : World), 0 ≤ inside → 0 ≤ seen → TreeAt S w0 s t → (∀ b, S b → b < w0.heap.size) → Box w0 q [.int .i64 seen] T →
  Calls Try.prog 135 #[.agg (trow t s).toArray, .int .i64 inside, .pointer (some q)] w0
   (fun e w' => ∃ r : Int, e = .returned (.int .i64 r) ∧ (r = (Sp.looks inside seen t).1 ∧ Box w' q [.int .i64 (Sp.looks inside seen t).2] T ∧ Ext (· = q.block) w0 w')) := by
 induction t using Sp.Tree.ind with
 | h k f t u x ks ih =>
 intro s inside seen w0 hi0 hn0 hT hSw hB
 suffices key : ∀ K : Int → World → Prop, (∀ r w', (r = (Sp.looks inside seen (.mk k f t u x ks)).1 ∧ Box w' q [.int .i64 (Sp.looks inside seen (.mk k f t u x ks)).2] T ∧ Ext (· = q.block) w0 w') → K r w') → m_ref05_looked k f t u x s inside (some q) w0 K from
  w_ref05_looked _ _ _ _ _ _ _ _ w0 _ (key _ (fun _ _ h => h))
 intro K hK
 have hql := hB.lt
 unfold m_ref05_looked
 refine ⟨q, rfl, ?_⟩
 intro H1 w1 hs1
 have hB1 := hB.pure hs1.first
 refine ⟨seen, hB1.cell0, ?_⟩
 intro H5 w13 hs5
 have E13 := hs1.first.hst hs5
 have hB13 := hB.pure E13
 have hq0 : ∀ {H w' H' w''}, Hst w0 H w' H' w'' → ¬ H' q.block := fun h hh => by have := h.old _ hh; omega
 unfold m_ref05_looked_j1
 refine ⟨fun h => ?_, fun h => ?_⟩
 ·have : Sp.looks inside seen (.mk k f t u x ks) = (52, seen) := by
   rw [Sp.looks]
   simp only [Bool.or_eq_true, decide_eq_true_eq] at h
   by_cases h1 : 4096 ≤ seen
   ·rw [if_pos h1]
   ·rw [if_neg h1, if_pos (by omega)]
  rw [this] at hK; exact hK _ _ ⟨rfl, hB13, E13.pure⟩
 ·have h1 : ¬ 4096 ≤ seen ∧ ¬ 64 ≤ inside := by
   simp only [Bool.or_eq_false_iff, decide_eq_false_iff_not] at h; omega
  have hsp : Sp.looks inside seen (.mk k f t u x ks) = Sp.looksAll (inside + 1) (Sp.ownErr ⟨k, f, t, u, x, 0, 0⟩ ks.length) (seen + 1) ks := by rw [Sp.looks, if_neg h1.1, if_neg h1.2]
  rw [hsp] at hK
  have hlen : s.len = ks.length := by cases hT; assumption
  have hfit : ks.length ≤ 9223372036854775807 := by cases hT; assumption
  refine ⟨q, rfl, seen, hB13.cell0, q, rfl, hB13.canW0 (by simp), hq0 hs5, ?_⟩
  rw [i64 (n := seen + 1) (by omega) (by omega)]
  rintro w2 hw2
  have hB2 : Box w2 q [.int .i64 (seen + 1)] T := by rw [hw2]; exact hB13.set0
  have E2 : Ext (· = q.block) w0 w2 := by rw [hw2]; exact E13.pure.trans (Ext.setCell q _)
  clear hw2
  rintro y1 rfl
  have hsh := ref05_shape ⟨k, f, t, u, x, 0, 0⟩
  simp only at hsh
  rw [hsh, ref05_kids, hlen]
  have hown : cond ((Sp.nodeErr ⟨k, f, t, u, x, 0, 0⟩ != 53) && ((ks.length : Int) != (Sp.shapeOf k).kids)) 53 (Sp.nodeErr ⟨k, f, t, u, x, 0, 0⟩) = Sp.ownErr ⟨k, f, t, u, x, 0, 0⟩ ks.length := by
   rw [ownErr_eq]
   by_cases h2 : Sp.nodeErr ⟨k, f, t, u, x, 0, 0⟩ = 53
   ·simp [h2]
   ·by_cases h3 : (ks.length : Int) = (Sp.shapeOf k).kids
    ·simp [h3]
    ·have e1 : (Sp.nodeErr ⟨k, f, t, u, x, 0, 0⟩ != 53) = true := by simpa using h2
     have e2 : ((ks.length : Int) != (Sp.shapeOf k).kids) = true := by simpa using h3
     rw [e1, e2, if_pos ⟨h2, h3⟩]; rfl
  rw [hown]
  intro H3 w10 hs3
  have E10 : Ext (· = q.block) w0 w10 := E2.hst hs3
  have hB10 := hB2.ext hs3.ext (hq0 hs3)
  refine ⟨fun e i H w' => ∃ j : Nat, i = j ∧ j ≤ ks.length ∧ ∃ n : Int, 0 ≤ n ∧ Ext (· = q.block) w0 w' ∧ Box w' q [.int .i64 n] T ∧ Sp.looksAll (inside + 1) e n (ks.drop j) = Sp.looksAll (inside + 1) (Sp.ownErr ⟨k, f, t, u, x, 0, 0⟩ ks.length) (seen + 1) ks, fun _ i _ => ((ks.length : Int) - i).toNat, ⟨0, rfl, Nat.zero_le _, seen + 1, by omega, E10, hB10, rfl⟩, ?_⟩
  rintro e1 _ Hl wl hl ⟨j, rfl, hj, n, hn, El, hBl, heq⟩
  unfold m_ref05_looked_l2
  have hTl := hT.ext El (fun b hb e => hq (e ▸ hb))
  refine ⟨fun hc => ?_, fun hc => ?_⟩
  ·simp only [Bool.and_eq_true, beq_iff_eq] at hc
   obtain ⟨he, hlt⟩ := hc
   have hlt := lt_of_dec hlen hlt
   subst he
   cases hTl with
   | mk _ _ _ _ _ _ _ rs len fit row kid =>
   obtain ⟨a, hat, ha, hr⟩ := row j hlt
   refine ⟨a, hat, ?_⟩
   intro H4 w11 hs4
   have E11 := El.hst hs4
   have hT11 := hT.ext E11 (fun b hb e => hq (e ▸ hb))
   have hr11 : Row w11 a (trow ks[j] (rs j)) := hs4.ext.row hr (fun hh => by have := hs4.old _ hh; have := hSw _ ha; omega)
   have hk11 : TreeAt S w11 (rs j) ks[j] := (kid j hlt).ext hs4.ext (fun b hb hh => by have := hs4.old _ hh; have := hSw _ hb; omega)
   have hB11 := hBl.ext hs4.ext (hq0 hs4)
   refine ⟨_, _, _, _, _, rs j, hr11, ?_⟩
   rw [i64 (n := inside + 1) (by omega) (by omega)]
   refine (ih j hlt (rs j) (inside + 1) n w11 (by omega) hn hk11 (fun b hb => by have := hSw b hb; have := E11.size; omega) hB11).mono ?_
   rintro _ w12 ⟨r, rfl, rfl, hB12, E12⟩
   refine ⟨_, rfl, E12.kept (fun b hb e => hq0 hs4 (e ▸ hb)), ?_⟩
   rw [wrap_succ hlt (by omega)]
   refine ⟨⟨j + 1, rfl, hlt, _, looks_mono ks[j] (inside + 1) n hn, E11.trans E12, hB12, ?_⟩, lt_dec hlt⟩
   rw [← heq]; exact (looksAll_drop hlt (inside + 1) n).symm
  ·intro H4 w11 hs4
   have hfin : Sp.looksAll (inside + 1) e1 n (ks.drop j) = (e1, n) := by
    by_cases he : e1 = 0
    ·have hge : j = ks.length := by
      rw [he] at hc
      have hc : decide ((j : Int) < (s.len : Int)) = false := by simpa using hc
      exact eq_of_dec hlen hj hc
     rw [hge, List.drop_length]; rfl
    ·exact looksAll_bad he _ _
   rw [hfin] at heq
   refine hK _ _ ⟨by rw [← heq], ?_, El.hst hs4⟩
   rw [← heq]; exact hBl.ext hs4.ext (hq0 hs4)
theorem c_ref05_Looks {S : Nat → Prop} (t : Sp.Tree) (s : Sl) (w0 : World) (hT : TreeAt S w0 s t) (hSw : ∀ b, S b → b < w0.heap.size) :
  Calls Try.prog 111 #[.agg (trow t s).toArray] w0 (fun e w' => ∃ r : Int, e = .returned (.int .i64 r) ∧ (r = (Sp.looks 0 0 t).1 ∧ Pure w0 w')) := by
 obtain ⟨k, f, to, u, x, ks⟩ := t
 refine w_ref05_Looks _ _ _ _ _ _ w0 (fun r w' => r = (Sp.looks 0 0 (.mk k f to u x ks)).1 ∧ Pure w0 w') ?_
 unfold m_ref05_Looks
 intro H1 w1 hs1 p w2 h2
 have b2 := Box.of_new h2
 have E2 : Pure w0 w2 := hs1.first.trans (Ext.new h2)
 have o2 := New.own hs1.first h2
 have hpH : ¬ H1 p.block := fun hh => by have := hs1.lt _ hh; have := h2.at_size; omega
 refine ⟨b2.canW0 (by simp), hpH, ?_⟩
 rintro w3 hw3
 have b3 : Box w3 p [.int .i64 0] 3 := by rw [hw3]; exact b2.set0
 have E3 : Pure w0 w3 := by rw [hw3]; exact E2.own o2 (Ext.setCell p _)
 clear hw3
 refine (c_ref05_looked p (fun h => by have := hSw _ h; omega) _ _ s 0 0 w3 (Int.le_refl _) (Int.le_refl _) (hT.pure E3) (fun b hb => by have := hSw b hb; have := E3.size; omega) b3).mono ?_
 rintro _ w4 ⟨r, rfl, rfl, _, E4⟩
 exact ⟨_, rfl, E4.kept (fun b hb e => hpH (e ▸ hb)), rfl, E3.own o2 E4⟩
end Go.Proofs
end
section
open Go Go.SE
namespace Go.Proofs
attribute [local irreducible] Calls
theorem c_ref05_cut (p : Addr) (n : Nat) (w0 : World) {L : Sp.Pool} {F : Nat → Prop} (hP : PoolR w0 p L F) (hn : n ≤ L.length) :
  Calls Try.prog 113 #[.pointer (some p), .int .i64 n] w0 (fun e w' => e = .returned (.tuple #[]) ∧ PoolR w' p (L.take n) F ∧ Ext F w0 w') := by
 suffices key : ∀ K : World → Prop, (∀ w', PoolR w' p (L.take n) F ∧ Ext F w0 w' → K w') → m_ref05_Pool_cut (some p) n w0 K from
  w_ref05_Pool_cut _ _ w0 _ (key _ (fun _ h => h))
 intro K hK
 unfold m_ref05_Pool_cut
 obtain ⟨s1, s2, s3, hS, hF⟩ := hP
 obtain ⟨t1, hr1, R1, hb1⟩ := Rws.hi (P := Try.prog) slT_node hS.r1 (k := .i64) (n := n) (by omega) (by simpa using hn)
 refine ⟨p, rfl, s1, hS.box.cell0, t1, hr1, p, rfl, hS.box.canW0 (by simp), ?_⟩
 rintro w1 hw1
 have B1 : Box w1 p [t1.v, s2.v, s3.v] 68 := by rw [hw1]; exact hS.box.set0
 have X1 : Ext (· = p.block) w0 w1 := by rw [hw1]; exact Ext.setCell p _
 clear hw1
 obtain ⟨t2, hr2, R2, hb2⟩ := Rws.hi (P := Try.prog) slT_int (hS.r2.ext X1 (fun b hb e => hS.n2 (e ▸ hb))) (k := .i64) (n := n) (by omega) (by simpa using hn)
 refine ⟨p, rfl, s2, B1.cell rfl, t2, hr2, p, rfl, B1.canW (by simp), ?_⟩
 rintro w2 hw2
 have B2 : Box w2 p [t1.v, t2.v, s3.v] 68 := by rw [hw2]; exact B1.set 1 _
 have X2 : Ext (· = p.block) w1 w2 := by rw [hw2]; have := Ext.setCell (w := w1) (p.add 1) t2.v; rw [add_block] at this; exact this
 clear hw2
 obtain ⟨t3, hr3, R3, hb3⟩ := Rws.hi (P := Try.prog) slT_int (hS.r3.ext (X1.trans X2) (fun b hb e => hS.n3 (e ▸ hb))) (k := .i64) (n := n) (by omega) (by simpa using hn)
 refine ⟨p, rfl, s3, B2.cell rfl, t3, hr3, p, rfl, B2.canW (by simp), ?_⟩
 rintro w3 hw3
 have B3 : Box w3 p [t1.v, t2.v, t3.v] 68 := by rw [hw3]; exact B2.set 2 _
 have X3 : Ext (· = p.block) w2 w3 := by rw [hw3]; have := Ext.setCell (w := w2) (p.add 2) t3.v; rw [add_block] at this; exact this
 clear hw3
 have E := (X1.trans X2).trans X3
 refine hK _ ⟨⟨t1, t2, t3, ⟨B3, ?_, ?_, ?_, fun h => hS.n1 ((hb1 _).1 h), fun h => hS.n2 ((hb2 _).1 h), fun h => hS.n3 ((hb3 _).1 h), fun b h1 h2 => hS.d12 b ((hb1 b).1 h1) ((hb2 b).1 h2), fun b h1 h2 => hS.d13 b ((hb1 b).1 h1) ((hb3 b).1 h2), fun b h1 h2 => hS.d23 b ((hb2 b).1 h1) ((hb3 b).1 h2)⟩, fun b => by rw [hF b, hb1 b, hb2 b, hb3 b]⟩, E.mono (fun i _ h => (hF i).2 (.inl h))⟩
 ·have := R1.ext E (fun b hb e => hS.n1 ((hb1 _).1 (e ▸ hb)))
  rw [List.map_take]; simpa using this
 ·have := R2.ext (X2.trans X3) (fun b hb e => hS.n2 ((hb2 _).1 (e ▸ hb)))
  rw [List.map_take]; simpa using this
 ·have := R3.ext X3 (fun b hb e => hS.n3 ((hb3 _).1 (e ▸ hb)))
  rw [List.map_take]; simpa using this
theorem c_ref05_made {S : Nat → Prop} (p : Addr) (t : Sp.Tree) : ∀ (s : Sl) (w0 : World) (L : Sp.Pool) (F : Nat → Prop), Sp.Tree.two t → TreeAt S w0 s t → PoolR w0 p L F → Sp.Ok L → (∀ b, F b → ¬ S b) → (∀ b, S b → b < w0.heap.size) →
  Calls Try.prog 112 #[.pointer (some p), .agg (trow t s).toArray] w0
   (fun e w' => ∃ r1 : Int, ∃ r2 : Int, e = .returned (.tuple #[.int .i64 r1, .int .i64 r2]) ∧ ((r1, r2) = ((Sp.grow L t).1, (Sp.grow L t).2.1) ∧ ∃ F', PoolR w' p (Sp.grow L t).2.2 F' ∧ Ext F w0 w' ∧ ∀ b, F' b → F b ∨ w0.heap.size ≤ b)) := by
 induction t using Sp.Tree.ind with
 | h k f t u x ks ih =>
 intro s w0 L F h2 hT hP hok hFS hSw
 suffices key : ∀ K : Int → Int → World → Prop, (∀ r1 r2 w', ((r1, r2) = ((Sp.grow L (.mk k f t u x ks)).1, (Sp.grow L (.mk k f t u x ks)).2.1) ∧ ∃ F', PoolR w' p (Sp.grow L (.mk k f t u x ks)).2.2 F' ∧ Ext F w0 w' ∧ ∀ b, F' b → F b ∨ w0.heap.size ≤ b) → K r1 r2 w') → m_ref05_Pool_made (some p) k f t u x s w0 K from
  w_ref05_Pool_made _ _ _ _ _ _ _ w0 _ (key _ (fun _ _ _ h => h))
 intro K hK
 obtain ⟨hk2, hall⟩ := two_mk.1 h2
 have hsp : Sp.grow L (.mk k f t u x ks) = Sp.growAll ⟨k, f, t, u, x, 0, 0⟩ 0 L ks := by rw [Sp.grow]
 rw [hsp] at hK
 have hlen : s.len = ks.length := by cases hT; assumption
 unfold m_ref05_Pool_made
 intro H2 w4 hs4
 refine ⟨fun i a1 a2 a3 a4 a5 a6 a7 H w' => ∃ j : Nat, i = j ∧ j ≤ ks.length ∧ ∃ (L' : Sp.Pool) (F' : Nat → Prop), Sp.growAll ⟨k, f, t, u, x, 0, 0⟩ 0 L ks = Sp.growAll ⟨a1, a2, a3, a4, a5, a6, a7⟩ j L' (ks.drop j) ∧ Sp.Ok L' ∧ PoolR w' p L' F' ∧ (∀ b, F' b → F b ∨ w0.heap.size ≤ b) ∧ (∀ b, F' b → ¬ H b) ∧ Ext F w0 w', fun i _ _ _ _ _ _ _ _ => ((ks.length : Int) - i).toNat,
  ⟨0, rfl, Nat.zero_le _, L, F, by simp, hok, hP.pure hs4.first, fun b h => .inl h, hs4.disj0 (fun b hb => hP.lt hb), hs4.first.pure⟩, ?_⟩
 rintro _ a1 a2 a3 a4 a5 a6 a7 Hl wl hl ⟨j, rfl, hj, L', F', heq, hok', hPl, hF', hv, El⟩
 unfold m_ref05_Pool_made_l1
 refine ⟨fun h => ?_, fun h => ?_⟩
 ·have hlt := lt_of_dec hlen h
  have hTl : TreeAt S wl s (.mk k f t u x ks) := hT.ext El (fun b hs hf => hFS b hf hs)
  have hkid : ∃ a r, At s j 6 a ∧ Row wl a (trow ks[j] r) ∧ TreeAt S wl r ks[j] := by
   cases hTl with
   | mk _ _ _ _ _ _ _ rs len fit row kid => exact let ⟨a, h1, _, h3⟩ := row j hlt; ⟨a, rs j, h1, h3, kid j hlt⟩
  obtain ⟨a, r, hat, hrow, hTk⟩ := hkid
  refine ⟨a, hat, _, _, _, _, _, r, hrow, ?_⟩
  have hsz : w0.heap.size ≤ wl.heap.size := El.size
  refine (ih j hlt r wl L' F' (twoAll_get hall hlt) hTk hPl hok' (fun b hb hs => (hF' b hb).elim (fun h => hFS b h hs) (fun h => by have := hSw b hs; omega)) (fun b hs => by have := hSw b hs; omega)).mono ?_
  rintro _ w8 ⟨r1, r2, rfl, hr, F8, hP8, E8, hF8⟩
  have e1 : r1 = (Sp.grow L' ks[j]).1 := congrArg Prod.fst hr
  have e2 : r2 = (Sp.grow L' ks[j]).2.1 := congrArg Prod.snd hr
  rw [List.drop_eq_getElem_cons hlt] at heq
  have hF8' : ∀ b, F8 b → F b ∨ w0.heap.size ≤ b := fun b hb => (hF8 b hb).elim (hF' b) (fun h => by right; omega)
  have Ew8 : Ext F w0 w8 := El.trans' E8 (fun i hi h => (hF' i h).elim id (fun h => by omega))
  refine ⟨_, _, rfl, E8.kept (fun b hH hF => hv b hF hH), fun h => ?_, fun h => ?_⟩
  ·have h : (Sp.grow L' ks[j]).2.1 ≠ 0 := by rw [← e2]; simpa using h
   rw [growAll_bad h] at heq
   refine hK _ _ _ ?_
   rw [heq]; exact ⟨by rw [e2], F8, hP8, Ew8, hF8'⟩
  ·have h : (Sp.grow L' ks[j]).2.1 = 0 := by rw [← e2]; simpa using h
   rw [growAll_good h] at heq
   intro H3 w9 hs9
   have hv8 : ∀ b, F8 b → ¬ Hl b := fun b hb hH => (hF8 b hb).elim (fun h => hv b h hH) (fun h => by have := hl.lt b hH; omega)
   have hv9 : ∀ b, F8 b → ¬ H3 b := hs9.disj (fun b hb => ⟨hP8.lt hb, hv8 b hb⟩)
   rw [wrap_succ hlt (by omega)]
   refine ⟨⟨j + 1, rfl, hlt, _, F8, ?_, (Sp.grow_facts ks[j] L' hok').1, hP8.ext hs9.ext hv9, hF8', hv9, Ew8.hst hs9⟩, lt_dec hlt⟩
   rw [heq, e1]
   have hj0 : (((j : Int)) == 0) = decide (j = 0) := by rw [Bool.eq_iff_iff]; simp
   rw [hj0]
   by_cases hj0' : j = 0
   ·subst hj0'; rfl
   ·simp [hj0']
 ·have hge := eq_of_dec hlen hj h
  rw [hge, List.drop_length, Sp.growAll] at heq
  refine (c_ref05_Make p ⟨a1, a2, a3, a4, a5, a6, a7⟩ wl hPl hok').mono ?_
  rintro _ w9 ⟨r1, r2, rfl, hr, F9, hP9, E9, hF9⟩
  have hsz : w0.heap.size ≤ wl.heap.size := El.size
  refine ⟨_, _, rfl, E9.kept (fun b hH hF => hv b hF hH), hK _ _ _ ?_⟩
  rw [heq]
  exact ⟨hr, F9, hP9, El.trans' E9 (fun i hi h => (hF' i h).elim id (fun h => by omega)), fun b hb => (hF9 b hb).elim (hF' b) (fun h => by right; omega)⟩
theorem grow_bad_term (t : Sp.Tree) : ∀ L, (Sp.grow L t).2.1 ≠ 0 → (Sp.grow L t).1 = 0 := by
 induction t using Sp.Tree.ind with
 | h k f t u x ks ih =>
  have hmk : ∀ L n, (Sp.make L n).2.1 ≠ 0 → (Sp.make L n).1 = 0 := by
   intro L n h
   unfold Sp.make at h ⊢
   simp only at h ⊢
   split at h
   ·rename_i h1; rw [if_pos h1]
   ·rename_i h1
    rw [if_neg h1]
    split at h
    ·rename_i hf; exact absurd rfl h
    ·split at h
     ·rename_i h2; simp [h2]
     ·exact absurd rfl h
  have : ∀ (ks : List Sp.Tree), (∀ i (hi : i < ks.length), ∀ L, (Sp.grow L ks[i]).2.1 ≠ 0 → (Sp.grow L ks[i]).1 = 0) → ∀ n i L, (Sp.growAll n i L ks).2.1 ≠ 0 → (Sp.growAll n i L ks).1 = 0 := by
   intro ks
   induction ks with
   | nil => intro _ n i L h; unfold Sp.growAll at h ⊢; exact hmk L n h
   | cons t ts iht =>
    intro hh n i L h
    unfold Sp.growAll at h ⊢
    split at h
    ·rename_i h1; rw [if_pos h1]
    ·rename_i h1; rw [if_neg h1]; exact iht (fun i hi => hh (i + 1) (by simpa using hi)) _ _ _ h
  intro L h
  unfold Sp.grow at h ⊢
  exact this ks ih _ _ L h
theorem c_ref05_Of {S : Nat → Prop} (p : Addr) (t : Sp.Tree) (s : Sl) (w0 : World) {L : Sp.Pool} {F : Nat → Prop} (hT : TreeAt S w0 s t) (hP : PoolR w0 p L F) (hok : Sp.Ok L) (hFS : ∀ b, F b → ¬ S b) (hSw : ∀ b, S b → b < w0.heap.size) :
  Calls Try.prog 64 #[.pointer (some p), .agg (trow t s).toArray] w0
   (fun e w' => ∃ r1 : Int, ∃ r2 : Int, e = .returned (.tuple #[.int .i64 r1, .int .i64 r2]) ∧ ((r1, r2) = ((Sp.of L t).1, (Sp.of L t).2.1) ∧ ∃ F', PoolR w' p (Sp.of L t).2.2 F' ∧ Ext F w0 w' ∧ ∀ b, F' b → F b ∨ w0.heap.size ≤ b)) := by
 obtain ⟨k, f, to, u, x, ks⟩ := t
 suffices key : ∀ K : Int → Int → World → Prop, (∀ r1 r2 w', ((r1, r2) = ((Sp.of L (.mk k f to u x ks)).1, (Sp.of L (.mk k f to u x ks)).2.1) ∧ ∃ F', PoolR w' p (Sp.of L (.mk k f to u x ks)).2.2 F' ∧ Ext F w0 w' ∧ ∀ b, F' b → F b ∨ w0.heap.size ≤ b) → K r1 r2 w') → m_ref05_Pool_Of (some p) k f to u x s w0 K from
  w_ref05_Pool_Of _ _ _ _ _ _ _ w0 _ (key _ (fun _ _ _ h => h))
 intro K hK
 unfold m_ref05_Pool_Of
 intro H1 w1 hs1
 have E1 := hs1.first
 generalize ht : Sp.Tree.mk k f to u x ks = t at *
 have htr : (Value.agg #[.int .i64 k, .int .i64 f, .int .i64 to, .int .u64 u, .string x, s.v]) = .agg (trow t s).toArray := by rw [← ht]; rfl
 rw [htr]
 refine (c_ref05_Looks t s w1 (hT.pure E1) (fun b hb => by have := hSw b hb; have := E1.size; omega)).mono ?_
 rintro _ w2 ⟨r1, rfl, rfl, E2⟩
 have E12 := E1.trans E2
 refine ⟨_, rfl, E2.keptP, fun h => ?_, fun h => ?_⟩
 ·have h : (Sp.looks 0 0 t).1 ≠ 0 := by simpa using h
  have : Sp.of L t = (0, (Sp.looks 0 0 t).1, L) := by rw [Sp.of, if_pos h]
  refine hK _ _ _ ?_
  rw [this]; exact ⟨rfl, F, hP.pure E12, E12.pure, fun _ h => .inl h⟩
 ·have h : (Sp.looks 0 0 t).1 = 0 := by simpa using h
  have hP2 := hP.pure E12
  have hv : ∀ b, F b → ¬ H1 b := hs1.disj0 (fun b hb => hP.lt hb)
  obtain ⟨s1, s2, s3, hS, hF0⟩ := id hP2
  have hl0 : s1.len = L.length := by rw [hS.r1.len]; simp
  refine ⟨p, rfl, s1, hS.box.cell0, ?_⟩
  refine (c_ref05_made p t s w2 L F (looks_two t _ _ h) (hT.pure E12) hP2 hok hFS (fun b hb => by have := hSw b hb; have := E12.size; omega)).mono ?_
  rintro _ w5 ⟨r1, r2, rfl, hr, F5, hP5, E5, hF5⟩
  have e1 : r1 = (Sp.grow L t).1 := congrArg Prod.fst hr
  have e2 : r2 = (Sp.grow L t).2.1 := congrArg Prod.snd hr
  have hs4 : w0.heap.size ≤ w2.heap.size := E12.size
  have E05 : Ext F w0 w5 := E12.pure.trans E5
  have hF5' : ∀ b, F5 b → F b ∨ w0.heap.size ≤ b := fun b hb => (hF5 b hb).elim .inl (fun h => .inr (by omega))
  have hs2 := hs1.again E2.keptP
  have hv5 : ∀ b, F5 b → ¬ H1 b := fun b hb hH => (hF5 b hb).elim (fun h => hv b h hH) (fun h => by have := hs2.lt b hH; omega)
  refine ⟨_, _, rfl, E5.kept (fun b hH hF => hv b hF hH), fun h' => ?_, fun h' => ?_⟩
  ·have h' : (Sp.grow L t).2.1 ≠ 0 := by rw [← e2]; simpa using h'
   obtain ⟨hok5, M, hM⟩ := Sp.grow_facts t L hok
   rw [hl0]
   refine (c_ref05_cut p L.length w5 hP5 (by rw [hM]; simp)).mono ?_
   rintro _ w6 ⟨rfl, hP6, E6⟩
   have : Sp.of L t = (0, (Sp.grow L t).2.1, L) := by rw [Sp.of, if_neg (by simp [h]), if_pos h']
   refine ⟨rfl, E6.kept (fun b hH hF => hv5 b hF hH), hK _ _ _ ?_⟩
   rw [this]
   rw [hM, List.take_left] at hP6
   exact ⟨by rw [e1, e2, grow_bad_term t L h'], F5, hP6, E05.trans' E6 (fun i hi h => (hF5' i h).elim id (fun h => by omega)), hF5'⟩
  ·have h' : (Sp.grow L t).2.1 = 0 := by rw [← e2]; simpa using h'
   have : Sp.of L t = ((Sp.grow L t).1, 0, (Sp.grow L t).2.2) := by rw [Sp.of, if_neg (by simp [h]), if_neg (by simp [h'])]
   refine hK _ _ _ ?_
   rw [this]
   exact ⟨by rw [e1, e2, h'], F5, hP5, E05, hF5'⟩
end Go.Proofs
end
section
namespace Go.Sp
mutual
def cnt : Tree → Nat
 | .mk _ _ _ _ _ ks => 1 + cntAll ks
def cntAll : List Tree → Nat
 | [] => 0
 | t :: ts => cnt t + cntAll ts
end
theorem cnt_pos (t : Tree) : 1 ≤ cnt t := by cases t; simp [cnt]
theorem cntAll_len : ∀ ks : List Tree, ks.length ≤ cntAll ks
 | [] => by simp
 | t :: ts => by have := cnt_pos t; have := cntAll_len ts; simp only [cntAll, List.length_cons]; omega
theorem cntAll_get : ∀ {ks : List Tree} {i : Nat} (hi : i < ks.length), cnt ks[i] ≤ cntAll ks
 | t :: ts, 0, _ => by simp [cntAll]
 | t :: ts, i + 1, hi => by
  have := cntAll_get (ks := ts) (i := i) (by simpa using hi)
  simp only [cntAll, List.getElem_cons_succ]; omega
mutual
def parts (most : Int) : Tree → Int
 | .mk _ _ _ _ _ ks => partsAll most 1 ks
def partsAll (most n : Int) : List Tree → Int
 | [] => n
 | t :: ts => if n ≤ most then partsAll most (n + parts (most - n) t) ts else n
end
mutual
def same : Tree → Tree → Bool
 | .mk k f t u x ks, .mk k' f' t' u' x' ks' => decide (k = k') && decide (f = f') && decide (t = t') && decide (u = u') && decide (x = x') && sameAll ks ks'
def sameAll : List Tree → List Tree → Bool
 | [], [] => true
 | t :: ts, t' :: ts' => same t t' && sameAll ts ts'
 | _, _ => false
end
end Go.Sp
end
section
open Go Go.SE
namespace Go.Proofs
attribute [local irreducible] Calls
theorem TreeAt.hst {S : Nat → Prop} {w0 w w' : World} {H H' : Nat → Prop} {s : Sl} {t : Sp.Tree} (h : TreeAt S w s t) (hs : Hst w0 H w H' w') (hd : ∀ b, S b → b < w.heap.size ∧ ¬ H b) : TreeAt S w' s t :=
 h.ext hs.ext (fun b hb hh => hs.disj (G := S) hd b hb hh)
end Go.Proofs
end
section
open Go Go.SE
namespace Go.Proofs
attribute [local irreducible] wpL wpX opE wpE Calls
end Go.Proofs
end
section
open Go Go.SE
namespace Go.Sp
end Go.Sp
namespace Go.Proofs
attribute [local irreducible] Calls
theorem TreeAt.leaf {S : Nat → Prop} {w : World} {k f t u : Int} {x : ByteArray} : TreeAt S w Sl.nil (.mk k f t u x []) :=
 .mk k f t u x [] Sl.nil (fun _ => Sl.nil) rfl (by simp) (fun i h => by simp at h) (fun i h => by simp at h)
theorem TreeAt.one {S : Nat → Prop} {w : World} {k f t u : Int} {x : ByteArray} {p : Addr} {A : Sp.Tree} {sa : Sl} {T : TypeId} (hB : Box w p (trow A sa) T) (hS : S p.block) (hA : TreeAt S w sa A) : TreeAt S w ⟨some p, 1, 1⟩ (.mk k f t u x [A]) := by
 refine .mk k f t u x [A] _ (fun _ => sa) rfl (by simp) (fun i h => ?_) (fun i h => ?_)
 ·have : i = 0 := by simpa using h
  subst this
  exact ⟨p, ⟨by omega, by simp, p, rfl, rfl⟩, hS, hB.row⟩
 ·have : i = 0 := by simpa using h
  subst this
  exact hA
theorem TreeAt.pair {S : Nat → Prop} {w : World} {k f t u : Int} {x : ByteArray} {p : Addr} {A B : Sp.Tree} {sa sb : Sl} {T : TypeId} (hB : Box w p (trow A sa ++ trow B sb) T) (hS : S p.block) (hA : TreeAt S w sa A) (hB2 : TreeAt S w sb B) : TreeAt S w ⟨some p, 2, 2⟩ (.mk k f t u x [A, B]) := by
 refine .mk k f t u x [A, B] _ (fun i => if i = 0 then sa else sb) rfl (by simp) (fun i h => ?_) (fun i h => ?_)
 ·have : i = 0 ∨ i = 1 := by simp at h; omega
  rcases this with rfl | rfl
  ·refine ⟨p, ⟨by omega, by simp, p, rfl, rfl⟩, hS, fun i hi => ?_⟩
   have := hB.row i (by simp [trow] at hi ⊢; omega)
   have hi' : i < 6 := by simpa [trow] using hi
   rw [this]; exact List.getElem?_append_left (by simp [trow]; omega)
  ·refine ⟨p.add (1 * 6), ⟨by omega, by simp, p, rfl, rfl⟩, by rw [add_block]; exact hS, fun i hi => ?_⟩
   have hi' : i < 6 := by simpa [trow] using hi
   have := hB.row (6 + i) (by simp [trow]; omega)
   rw [add_add, this, List.getElem?_append_right (by simp [trow])]
   simp [trow]
 ·have : i = 0 ∨ i = 1 := by simp at h; omega
  rcases this with rfl | rfl
  ·exact hA
  ·exact hB2
abbrev RetT (n0 : Nat) (w : World) (T : Sp.Tree) (e : Ending) (w' : World) : Prop := ∃ s, e = .returned (.agg (trow T s).toArray) ∧ TreeAt (n0 ≤ ·) w' s T ∧ Pure w w'
end Go.Proofs
end
section
open Go Go.SE
namespace Go.Proofs
attribute [local irreducible] Calls
theorem slT_tree : SlType Try.prog 22 46 6 72 := by
 refine ⟨Try.underlying22, ⟨Try.t46, _, by kernel_rfl, (by kernel_rfl : Try.t46.zero = some (.agg #[.int .i64 0, .int .i64 0, .int .i64 0, .int .u64 0, .string ⟨#[]⟩, .slice none 0 0])), by kernel_rfl, by kernel_rfl, rfl⟩, by omega⟩
def prow (p : Sp.Tree × Sl) : List Value := trow p.1 p.2
theorem TreeAt.of_pairs {S : Nat → Prop} {w : World} {s : Sl} {e : TypeId} {ps : List (Sp.Tree × Sl)} {k f t u : Int} {x : ByteArray} (hR : Rws w e 6 s (ps.map prow)) (hS : ∀ b, s.blk b → S b) (hk : ∀ p ∈ ps, TreeAt S w p.2 p.1) (fit : ps.length ≤ 9223372036854775807) : TreeAt S w s (.mk k f t u x (ps.map Prod.fst)) := by
 refine .mk k f t u x _ s (fun i => (ps.getD i (Sp.noTree, Sl.nil)).2) (by rw [hR.len]; simp) (by simpa using fit) (fun i h => ?_) (fun i h => ?_)
 ·have h' : i < ps.length := by simpa using h
  obtain ⟨a, h1, h2, h3⟩ := hR.at (i := i) (by omega) (by simpa using h')
  refine ⟨a, h1, hS _ h3, ?_⟩
  have e1 : (ps.map Prod.fst)[i] = ps[i].1 := by simp
  have e2 : (ps.getD i (Sp.noTree, Sl.nil)).2 = ps[i].2 := by simp [List.getD_eq_getElem?_getD, h']
  rw [e1, e2]; simpa [prow] using h2
 ·have h' : i < ps.length := by simpa using h
  have e1 : (ps.map Prod.fst)[i] = ps[i].1 := by simp
  have e2 : (ps.getD i (Sp.noTree, Sl.nil)).2 = ps[i].2 := by simp [List.getD_eq_getElem?_getD, h']
  rw [e1, e2]; exact hk _ (List.getElem_mem h')
theorem trow_one (t : Sp.Tree) (s : Sl) : (trow t s).all oneCell = true := by simp [trow, oneCell, Sl.v]
theorem c_ref05_Lent {S : Nat → Prop} (t : Sp.Tree) : ∀ (s : Sl) (w0 : World), Sp.cnt t ≤ 1000000 → TreeAt S w0 s t → (∀ b, S b → b < w0.heap.size) →
  Calls Try.prog 24 #[.agg (trow t s).toArray] w0 (RetT w0.heap.size w0 t) := by
 induction t using Sp.Tree.ind with
 | h k f t u x ks ih =>
 intro s w0 hcnt hT hSw
 suffices key : ∀ K : Int → Int → Int → Int → ByteArray → Sl → World → Prop, (∀ s' w', TreeAt (w0.heap.size ≤ ·) w' s' (.mk k f t u x ks) → Pure w0 w' → K k f t u x s' w') → m_ref05_Lent k f t u x s w0 K by
  refine (w_ref05_Lent _ _ _ _ _ _ w0 (fun k' f' t' u' x' s' w' => (k' = k ∧ f' = f ∧ t' = t ∧ u' = u ∧ x' = x) ∧ TreeAt (w0.heap.size ≤ ·) w' s' (.mk k f t u x ks) ∧ Pure w0 w') (key _ (fun s' w' h1 h2 => ⟨⟨rfl, rfl, rfl, rfl, rfl⟩, h1, h2⟩))).mono ?_
  rintro _ w' ⟨_, _, _, _, _, s', rfl, ⟨rfl, rfl, rfl, rfl, rfl⟩, h1, h2⟩
  exact ⟨s', rfl, h1, h2⟩
 intro K hK
 have hlen : s.len = ks.length := by cases hT; assumption
 have hca : 1 + Sp.cntAll ks ≤ 1000000 := by simpa [Sp.cnt] using hcnt
 have hkl := Sp.cntAll_len ks
 have hnil : ∀ b, ¬ Sl.nil.blk b := fun b hb => by obtain ⟨a, h, _⟩ := hb; cases h
 unfold m_ref05_Lent
 intro H3 w5 hs5
 refine ⟨fun i _ _ _ _ _ yk H w' => ∃ j : Nat, i = j ∧ j ≤ ks.length ∧ Pure w0 w' ∧ ∃ (ps : List (Sp.Tree × Sl)) (S' : Nat → Prop), ps.map Prod.fst = ks.take j ∧ Own H w' 46 6 yk (ps.map prow) ∧ (∀ p ∈ ps, TreeAt S' w' p.2 p.1) ∧ (∀ b, S' b → w0.heap.size ≤ b ∧ b < w'.heap.size ∧ ¬ H b ∧ ¬ yk.blk b) ∧ (∀ b, yk.blk b → w0.heap.size ≤ b),
  fun i _ _ _ _ _ _ _ => ((ks.length : Int) - i).toNat, ⟨0, rfl, Nat.zero_le _, hs5.first, [], fun _ => False, by simp, Own.nil _ _, by simp, fun b h => h.elim, fun b h => (hnil b h).elim⟩, ?_⟩
 rintro _ y1 y2 y3 y4 y5 yk Hl wl hl ⟨j, rfl, hj, El, ps, S', hps, Oy, hkids, hS', hyk⟩
 have hpl : ps.length = j := by have := congrArg List.length hps; simpa [Nat.min_eq_left hj] using this
 unfold m_ref05_Lent_l1
 refine ⟨fun hc => ?_, fun hc => ?_⟩
 ·have hlt := lt_of_dec hlen hc
  have g1 : ∃ a r, At s j 6 a ∧ S a.block ∧ (∀ w', Pure w0 w' → Row w' a (trow ks[j] r)) ∧ TreeAt S w0 r ks[j] := by
   cases hT with
   | mk _ _ _ _ _ _ _ rs len fit row kid => obtain ⟨a, h1, h2, h3⟩ := row j hlt; exact ⟨a, rs j, h1, h2, fun w' E => E.row h3 id, kid j hlt⟩
  obtain ⟨a, r, hat, _, hr, hk⟩ := g1
  have E6 : Pure wl wl.drew := Ext.drew wl
  have Ed := El.trans E6
  refine ⟨fun w' => Pure w0 w', Ed, ?_⟩
  rintro _ rfl
  refine ⟨a, hat, _, _, _, _, _, r, fun w' h => hr w' h, ?_⟩
  have hcj := Sp.cntAll_get (ks := ks) hlt
  refine (ih j hlt r wl.drew (by omega) (hk.pure Ed) (fun b hb => by have := hSw b hb; have := Ed.size; omega)).mono ?_
  rintro _ w7 ⟨s', rfl, hTk, E7⟩
  have E07 := Ed.trans E7
  refine ⟨_, _, _, _, _, s', rfl, E07, E7.keptP, ?_⟩
  intro p4 w8 h8
  have E8 : Pure w7 w8 := Ext.new h8
  refine ⟨E07.trans E8, ?_⟩
  have hs8 : Hst w0 Hl w8 Hl w8 := (hl.again E6.keptP).again (E7.trans E8).keptP
  have O8 := Oy.pure ((E6.trans E7).trans E8)
  obtain ⟨s1, w9, hr9, hO9, hE9, hk9, hb9⟩ := O8.append (P := Try.prog) (ty := 22) (c := 1) slT_tree hs8 (r := trow ks[j] s') (Box.of_new h8).row rfl (trow_one _ _) (by simp; omega) (by simp [maxLen]; omega)
  have E09 : Pure w0 w9 := (E07.trans E8).trans' hE9 (fun i hi hb => by have := hyk i hb; omega)
  refine ⟨s1, w9, hr9, E09, hk9, ?_⟩
  intro w10 hs10
  have hsd : wl.drew.heap.size = wl.heap.size := rfl
  have z7 := E7.size
  have z8 := E8.size
  have z9 := hE9.size
  have hSn : ∀ b, (S' b ∨ (wl.heap.size ≤ b ∧ b < w7.heap.size)) → w0.heap.size ≤ b ∧ b < w9.heap.size ∧ ¬ Hl b ∧ ¬ s1.blk b := by
   rintro b (hb | ⟨h1, h2⟩)
   ·obtain ⟨q1, q2, q3, q4⟩ := hS' b hb
    exact ⟨q1, by omega, q3, fun h => (hb9 b h).elim q4 (fun h => by omega)⟩
   ·refine ⟨by have := El.size; omega, by omega, fun h => by have := hl.lt b h; omega, fun h => (hb9 b h).elim (fun h => by have := Oy.rows.lt h; omega) (fun h => by omega)⟩
  rw [wrap_succ hlt (by omega)]
  refine ⟨⟨j + 1, rfl, hlt, E09.hst hs10, ps ++ [(ks[j], s')], fun b => S' b ∨ (wl.heap.size ≤ b ∧ b < w7.heap.size), ?_, ?_, ?_, ?_, ?_⟩, lt_dec hlt⟩
  ·rw [List.map_append, hps, List.take_succ_eq_append_getElem hlt]; rfl
  ·have : (ps ++ [(ks[j], s')]).map prow = ps.map prow ++ [trow ks[j] s'] := by simp [prow]
   rw [this]; exact hO9.hst hs10
  ·intro p hp
   have hnb : ∀ b, (S' b ∨ (wl.heap.size ≤ b ∧ b < w7.heap.size)) → b < w9.heap.size ∧ ¬ Hl b := fun b hb => ⟨(hSn b hb).2.1, (hSn b hb).2.2.1⟩
   rcases List.mem_append.1 hp with h | h
   ·have := (hkids p h).pure ((E6.trans E7).trans E8)
    have := this.ext hE9 (fun b hb hy => (hS' b hb).2.2.2 hy)
    exact (this.mono (fun b hb => .inl hb)).hst hs10 hnb
   ·simp only [List.mem_singleton] at h; subst h
    have := (hTk.lt.pure E8).ext hE9 (fun b hb hy => by have := Oy.rows.lt hy; have := hb.1; omega)
    exact (this.mono (S' := fun b => S' b ∨ (wl.heap.size ≤ b ∧ b < w7.heap.size)) (fun b hb => .inr ⟨by have := hb.1; omega, hb.2⟩)).hst hs10 hnb
  ·intro b hb
   obtain ⟨q1, q2, q3, q4⟩ := hSn b hb
   exact ⟨q1, Nat.lt_of_lt_of_le q2 hs10.ext.size, q3, q4⟩
  ·intro b hb
   exact (hb9 b hb).elim (hyk b) (fun h => by have := (E07.trans E8).size; omega)
 ·have hge := eq_of_dec hlen hj hc
  subst hge
  rw [List.take_length] at hps
  have E6 : Pure wl wl.drew := Ext.drew wl
  refine ⟨fun _ => True, trivial, ?_⟩
  rintro _ rfl
  intro p5 w12 h12
  have E12 : Pure wl w12 := E6.trans (Ext.new h12)
  refine ⟨trivial, ?_⟩
  have hs12 : Hst w0 Hl w12 Hl w12 := hl.again E12.keptP
  obtain ⟨s2, w13, hr13, hO13, hE13, hk13, hb13⟩ := (Oy.pure E12).append (P := Try.prog) (ty := 22) (c := 1) slT_tree hs12 (r := trow (.mk (-1) 0 0 0 ⟨#[]⟩ []) Sl.nil) (Box.of_new h12).row rfl (trow_one _ _) (by simp; omega) (by simp [maxLen]; omega)
  refine ⟨s2, w13, hr13, trivial, hk13, ?_⟩
  have hyl : yk.len = ks.length := by rw [Oy.len]; simp [hpl]
  obtain ⟨s3, hr3, hR3, hb3⟩ := Rws.hiA (P := Try.prog) slT_tree hO13.rows (k := .i64) (n := (ks.length : Int)) (by omega) (by simp [hpl]; omega)
  rw [hyl]
  refine ⟨s3, fun w' _ => hr3 w', ?_⟩
  intro w14 hs14
  have hR3' : Rws w13 46 6 s3 (ps.map prow) := by
   have e : ((ps.map prow) ++ [trow (.mk (-1) 0 0 0 ⟨#[]⟩ []) Sl.nil]).take (ks.length : Int).toNat = ps.map prow := by
    rw [Int.toNat_natCast]; exact List.take_left' (by simp [hpl])
   rw [e] at hR3; exact hR3
  have hv3 : ∀ b, s3.blk b → b < w13.heap.size ∧ ¬ Hl b := fun b hb => ⟨hR3'.lt hb, hO13.vis b ((hb3 b).1 hb)⟩
  have hR14 := hR3'.ext hs14.ext (hs14.disj (G := s3.blk) hv3)
  have z12 := E12.size
  have z13 := hE13.size
  have hs3 : ∀ b, s3.blk b → w0.heap.size ≤ b := fun b hb => (hb13 b ((hb3 b).1 hb)).elim (hyk b) (fun h => by have := El.size; omega)
  refine hK s3 w14 ?_ ?_
  ·have hT3 := TreeAt.of_pairs (S := fun b => w0.heap.size ≤ b) (k := k) (f := f) (t := t) (u := u) (x := x) hR14 hs3 (fun p hp => ?_) (by omega)
   ·rw [hps] at hT3; exact hT3
   ·have h1 := ((hkids p hp).pure E12).ext hE13 (fun b hb hy => (hS' b hb).2.2.2 hy)
    exact (h1.hst hs14 (fun b hb => ⟨by have := (hS' b hb).2.1; omega, (hS' b hb).2.2.1⟩)).mono (fun b hb => (hS' b hb).1)
  ·exact ((El.trans E12).trans' hE13 (fun i hi hb => by have := hyk i hb; omega)).hst hs14
end Go.Proofs
end
section
open Go Go.SE
namespace Go.Proofs
attribute [local irreducible] wpL wpX opE wpE Calls
end Go.Proofs
end
section
open Go Go.SE
namespace Go.Proofs
set_option maxRecDepth 100000
set_option maxHeartbeats 4000000
attribute [local irreducible] wpL wpX opE wpE Calls
def m_law09_long_l1 (l1 : Sl) (n1 i1 : Int) (wl1 : World) (Kc1 : Int → Int → World → Prop) (K : Bool → World → Prop) : Prop :=
 Br ((decide (i1 < (l1.len : Int))) && (decide (i1 ≤ 300)))
  (∃ a1 : Addr, At l1 i1 5 a1 ∧
  ∃ v1 : ByteArray, wl1.cell? (a1.add 4) = some (vs v1) ∧
  Kc1 (IntKind.i64.wrap (n1 + (v1.size : Int))) (IntKind.i64.wrap (i1 + 1)) wl1)
  (K ((decide ((l1.len : Int) > 300)) || (decide (n1 > 20000))) wl1)
def m_law09_long (l1 : Sl) (w0 : World) (K : Bool → World → Prop) : Prop :=
 ∃ (I1 : Int → Int → World → Prop) (mu1 : Int → Int → World → Nat), I1 0 0 w0 ∧
  ∀ (n1 i1 : Int) (wl1 : World), I1 n1 i1 wl1 → m_law09_long_l1 l1 n1 i1 wl1 (fun y'0 y'1 w' => I1 y'0 y'1 w' ∧ mu1 y'0 y'1 w' < mu1 n1 i1 wl1) K
theorem w_law09_long (l1 : Sl) (w0 : World) (K : Bool → World → Prop) (h : m_law09_long l1 w0 K) :
  Calls Try.prog 13 #[l1.v] w0 (fun e w' => ∃ r1 : Bool, e = .returned (vb r1) ∧ K r1 w') := by
 unfold m_law09_long at h
 refine calls_of_wpE (args := [l1.v]) Try.func13 rfl Try.ntmps13 (Nat.le_of_ble_eq_true rfl) (wpE_seq (rg (q0 (vb false) (wpL_nil (th_n (wpE_seq (rg (q0 (vi 0) (wpL_nil (th_n (wpE_seq ?_)))))))))))
 refine wpE_seq (rg (q0 (vi 0) (wpL_nil (th_n (wpE_block ?_)))))
 obtain ⟨I1, mu1, h0, hr⟩ := h
 refine wpE_loop (σ := Int × Int × World) (fun s ρ w => w = s.2.2 ∧ Has ρ [(0, l1.v), (3, (vi s.1)), (4, (vi s.2.1))] ∧ I1 s.1 s.2.1 s.2.2) (fun s => mu1 s.1 s.2.1 s.2.2) (0, 0, w0) ⟨rfl, Has.mk (by kernel_rfl), h0⟩ ?_
 rintro ⟨n1, i1, wl1⟩ ρ w ⟨hw, hH, hI⟩
 obtain rfl : wl1 = w := (show w = wl1 from hw).symm
 replace hH : Has ρ [(0, l1.v), (3, (vi n1)), (4, (vi i1))] := hH
 have h := hr n1 i1 wl1 hI
 clear hr h0
 unfold m_law09_long_l1 at h
 refine wpE_has hH ?_
 clear hH hI
 refine wpE_seq (wpE_seq ?_)
 refine wpE_via (fun ρ wJ => ∃ b1'0 : Bool, ((decide (i1 < (l1.len : Int))) = b1'0) ∧ wl1 = wJ ∧ Has ρ [(0, l1.v), (3, (vi n1)), (4, (vi i1)), (12, (vb (b1'0 && (decide (i1 ≤ 300)))))]) ?_ ?_
 ·skip
  refine rg (q0 (vi i1) (q0 l1.v (q0 (vi (l1.len : Int)) (q0 (vb (decide (i1 < (l1.len : Int)))) (q0 (vb (decide (i1 < (l1.len : Int)))) ?_)))))
  rcases Bool.eq_false_or_eq_true (decide (i1 < (l1.len : Int))) with hg2 | hg2
  ·skip
   refine q1 (vi i1) (want1 rfl (yD 9 hg2)) (q1 (vb (decide (i1 ≤ 300))) (want1 rfl (yD 9 hg2)) (q2 (vb (decide (i1 ≤ 300))) (xT hg2) (wpL_nil (th_n ?_))))
   exact ⟨true, hg2, rfl, Has.mk (by kernel_rfl)⟩
  ·skip
   refine sk (yD 9 hg2) (sk (yD 9 hg2) (q2 (vb false) (xF hg2) (wpL_nil (th_n ?_))))
   exact ⟨false, hg2, rfl, Has.mk (by kernel_rfl)⟩
 ·rintro ρ w1 ⟨b1'0, he0, hw, hH⟩
  subst he0
  subst hw
  refine norm_has hH ?_
  clear hH
  refine th_n ?_
  refine wpE_cond (t := ((decide (i1 < (l1.len : Int))) && (decide (i1 ≤ 300)))) (by kernel_rfl) (fun hc1 => ?_) (fun hc1 => ?_)
  ·replace h := h.1 hc1
   refine wpE_skip (th_n (wpE_seq (wpE_block (rg (q0 (vi n1) (q0 l1.v (q0 (vi i1) ?_)))))))
   obtain ⟨a1, hv2, h⟩ := h
   refine q2 (vp (some a1)) (x_indexAddr (s := l1) (k := .i64) (i := i1) (by kernel_rfl) (by kernel_rfl) (Try.runUnderlying23 _) (Try.sizeOf103 _) hv2) (q0 (vp (some (a1.add 4))) ?_)
   obtain ⟨v1, hv1, h⟩ := h
   refine q2 (vs v1) (xl (Try.isAgg9 _) hv1) (q0 (vi (v1.size : Int)) (q0 (vi (IntKind.i64.wrap (n1 + (v1.size : Int)))) (q0 (vi (IntKind.i64.wrap (n1 + (v1.size : Int)))) (wpL_nil (bl_n (th_n (rg (q0 (vi i1) (q0 (vi (IntKind.i64.wrap (i1 + 1))) (q0 (vi (IntKind.i64.wrap (i1 + 1))) (wpL_nil ?_)))))))))))
   refine th_n ?_
   exact ⟨((IntKind.i64.wrap (n1 + (v1.size : Int))), (IntKind.i64.wrap (i1 + 1)), wl1), ⟨rfl, Has.mk (by kernel_rfl), h.1⟩, h.2⟩
  ·replace h := h.2 hc1
   refine wpE_exit (th_x (th_x (bl_eq (th_n (wpE_seq ?_)))))
   refine wpE_via (fun ρ wJ => wl1 = wJ ∧ Has ρ [(2, (vb ((decide ((l1.len : Int) > 300)) || (decide (n1 > 20000)))))]) ?_ ?_
   ·skip
    refine rg (q0 l1.v (q0 (vi (l1.len : Int)) (q0 (vb (decide ((l1.len : Int) > 300))) (q0 (vb (decide ((l1.len : Int) > 300))) ?_))))
    refine wpL_join 3 (fun ρ wJ => ∃ b4'0 : Bool, ((decide ((l1.len : Int) > 300)) = b4'0) ∧ wl1 = wJ ∧ Has ρ [(29, (vb (b4'0 || (decide (n1 > 20000)))))]) ?_ ?_
    ·rintro ρ w4 ⟨b4'0, he0, hw, hH⟩
     subst he0
     subst hw
     refine wpL_has hH ?_
     clear hH
     refine q0 (vb ((decide ((l1.len : Int) > 300)) || (decide (n1 > 20000)))) (wpL_nil (th_n ?_))
     exact ⟨rfl, Has.mk (by kernel_rfl)⟩
    ·skip
     rcases Bool.eq_false_or_eq_true (decide ((l1.len : Int) > 300)) with hg6 | hg6
     ·skip
      refine sk (yD 26 hg6) (sk (yD 26 hg6) (q2 (vb true) (xT hg6) (wpL_nil ?_)))
      exact ⟨true, hg6, rfl, Has.mk (by kernel_rfl)⟩
     ·skip
      refine q1 (vi n1) (want1 rfl (yD 26 hg6)) (q1 (vb (decide (n1 > 20000))) (want1 rfl (yD 26 hg6)) (q2 (vb (decide (n1 > 20000))) (xF hg6) (wpL_nil ?_)))
      exact ⟨false, hg6, rfl, Has.mk (by kernel_rfl)⟩
   ·rintro ρ w3 ⟨hw, hH⟩
    subst hw
    refine norm_has hH ?_
    clear hH
    refine th_n (wpE_ret (res1 (.inl rfl) Try.results13 (v := (vb ((decide ((l1.len : Int) > 300)) || (decide (n1 > 20000))))) (by kernel_rfl) ?_))
    exact ⟨((decide ((l1.len : Int) > 300)) || (decide (n1 > 20000))), rfl, h⟩
def s_law09_num (e1 : Int) : Int :=
 e1
theorem pw_law09_num (e1 : Int) (w0 : World) :
  Calls Try.prog 19 #[(vi e1)] w0 (fun e w' => (e = .returned (vi e1)) ∧ Pure w0 w') := by
 refine calls_of_wpE (args := [(vi e1)]) Try.func19 rfl Try.ntmps19 (Nat.le_of_ble_eq_true rfl) (wpE_seq (rg (q0 (vi 0) (wpL_nil (th_n (wpE_seq (rg (q0 (vi e1) (q0 (vi e1) (wpL_nil (th_n ?_)))))))))))
 refine wpE_ret (res1 (.inl rfl) Try.results19 (v := (vi e1)) (by kernel_rfl) ?_)
 exact ⟨by kernel_rfl, Ext.refl _⟩
theorem p_law09_num (e1 : Int) (w0 : World) : Calls Try.prog 19 #[(.int .i64 e1)] w0 (fun e w' => e = .returned (.int .i64 (s_law09_num e1)) ∧ Pure w0 w') := pw_law09_num e1 w0
def m_law09_given_j4 (k1 : Int) (there2 : Bool) (H : Nat → Prop) (w : World) (Kc3 : Bool → Int → (Nat → Prop) → World → Prop) (_K : (Option Addr) → Bool → World → Prop) : Prop :=
 Kc3 there2 (IntKind.i64.wrap (k1 + 1)) H w
def m_law09_given_l3 (p1 : Addr) (i1 r4 r6 : Int) (there1 : Bool) (k1 : Int) (Hl2 : Nat → Prop) (wl2 : World) (Kc2 : Int → (Nat → Prop) → World → Prop) (Kc3 : Bool → Int → (Nat → Prop) → World → Prop) (K : (Option Addr) → Bool → World → Prop) : Prop :=
 ∃ v4 : Sl, wl2.cell? (p1.add 3) = some v4.v ∧
 Br (decide (k1 < (v4.len : Int)))
  (Br there1
   (m_law09_given_j4 k1 true Hl2 wl2 Kc3 K)
   (∃ v5 : Sl, wl2.cell? (p1.add 3) = some v5.v ∧
   ∃ a3 : Addr, At v5 k1 1 a3 ∧
   ∃ v6 : Int, wl2.cell? a3 = some (vi v6) ∧
   m_law09_given_j4 k1 (v6 == r6) Hl2 wl2 Kc3 K))
  (Br (!there1)
   (∃ v7 : Sl, wl2.cell? (p1.add 3) = some v7.v ∧
   ∀ (p2 : Addr) (w14 : World), New wl2 (.cells #[(vi r6)] 38) p2 w14 →
   ∃ s1 : Sl, ∃ w15 : World, (Builtin.append_ #[30, 30] 30 #[v7.v, (Sl.mk (some p2) 1 1).v]).run Try.prog w14 = .ok s1.v w15 ∧
   Kept Hl2 w14 w15 ∧
   CanW w15 (p1.add 3) ∧ ¬ Hl2 (p1.add 3).block ∧ ∀ w16 : World, w16 = w15.setCell (p1.add 3) s1.v →
   ∃ v8 : Option Addr, w16.cell? (p1.add 1) = some (vp v8) ∧
   Calls Try.prog 56 #[(vp v8), (vi r4)] w16 (fun e w17 => ∃ r8 : Int, e = .returned (vi r8) ∧ 
    Kept Hl2 w16 w17 ∧
    Kc2 (IntKind.i64.wrap (i1 + 1)) Hl2 w17))
   (∃ v9 : Option Addr, wl2.cell? (p1.add 1) = some (vp v9) ∧
   Calls Try.prog 56 #[(vp v9), (vi r4)] wl2 (fun e w18 => ∃ r9 : Int, e = .returned (vi r9) ∧ 
    Kept Hl2 wl2 w18 ∧
    Kc2 (IntKind.i64.wrap (i1 + 1)) Hl2 w18)))
def m_law09_given_l2 (l1 : Sl) (p1 : Addr) (i1 : Int) (w0 : World) (Hl1 : Nat → Prop) (wl1 : World) (Kc2 : Int → (Nat → Prop) → World → Prop) (K : (Option Addr) → Bool → World → Prop) : Prop :=
 Br (decide (i1 < (l1.len : Int)))
  (∃ C1 : World → Prop, C1 wl1.drew ∧ ∀ w6, w6 = wl1.drew →
  ∃ v2 : Option Addr, (∀ w', C1 w' → w'.cell? p1 = some (vp v2)) ∧
  ∃ a1 : Addr, At l1 i1 6 a1 ∧
  ∃ aH aI : Int, ∃ aJ aK : Int, ∃ aL : ByteArray, ∃ aM : Sl, (∀ w', C1 w' → Row w' a1 [(vi aH), (vi aI), (vi aJ), (vu aK), (vs aL), aM.v]) ∧
  Calls Try.prog 24 #[(.agg #[(vi aH), (vi aI), (vi aJ), (vu aK), (vs aL), aM.v])] w6 (fun e w7 => ∃ aA aB : Int, ∃ aC aD : Int, ∃ aE : ByteArray, ∃ aT : Sl, e = .returned (.agg #[(vi aA), (vi aB), (vi aC), (vu aD), (vs aE), aT.v]) ∧ C1 w7 ∧ 
   Kept Hl1 w6 w7 ∧
   Calls Try.prog 23 #[(vp v2), (.agg #[(vi aA), (vi aB), (vi aC), (vu aD), (vs aE), aT.v])] w7 (fun e w8 => ∃ r4 r5 : Int, e = .returned (.tuple #[(vi r4), (vi r5)]) ∧ C1 w8 ∧ 
    Kept Hl1 w7 w8 ∧
    ∃ C2 : World → Prop, C2 w8.drew ∧ ∀ w9, w9 = w8.drew →
    ∃ v3 : Option Addr, (∀ w', C2 w' → w'.cell? (p1.add 2) = some (vp v3)) ∧
    ∃ a2 : Addr, At l1 i1 6 a2 ∧
    ∃ aN aO : Int, ∃ aP aQ : Int, ∃ aR : ByteArray, ∃ aS : Sl, (∀ w', C2 w' → Row w' a2 [(vi aN), (vi aO), (vi aP), (vu aQ), (vs aR), aS.v]) ∧
    Calls Try.prog 64 #[(vp v3), (.agg #[(vi aN), (vi aO), (vi aP), (vu aQ), (vs aR), aS.v])] w9 (fun e w10 => ∃ r6 r7 : Int, e = .returned (.tuple #[(vi r6), (vi r7)]) ∧ C2 w10 ∧ 
     Kept Hl1 w9 w10 ∧
     Br ((r4 != r6) || (r5 != r7))
      (∀ (H1 : Nat → Prop) (w12 : World), Hst w0 Hl1 w10 H1 w12 →
      K none false w12)
      (Br (r7 != 0)
       (∀ (H1 : Nat → Prop) (w12 : World), Hst w0 Hl1 w10 H1 w12 →
       Kc2 (IntKind.i64.wrap (i1 + 1)) H1 w12)
       (∀ (H1 : Nat → Prop) (w12 : World), Hst w0 Hl1 w10 H1 w12 →
       ∃ (I2 : Bool → Int → (Nat → Prop) → World → Prop) (mu2 : Bool → Int → World → Nat), I2 false 0 H1 w12 ∧
        ∀ (there1 : Bool) (k1 : Int) (Hl2 : Nat → Prop) (wl2 : World), Hst w0 Hl2 wl2 Hl2 wl2 → I2 there1 k1 Hl2 wl2 → m_law09_given_l3 p1 i1 r4 r6 there1 k1 Hl2 wl2 Kc2 (fun y'0 y'1 H' w' => I2 y'0 y'1 H' w' ∧ mu2 y'0 y'1 w' < mu2 there1 k1 wl2) K))))))
  (K (some p1) true wl1)
def m_law09_given_j1 (l1 : Sl) (p1 : Addr) (x1 : Bool) (w0 : World) (H : Nat → Prop) (w : World) (K : (Option Addr) → Bool → World → Prop) : Prop :=
 Br x1
  (K none false w)
  (∃ (I1 : Int → (Nat → Prop) → World → Prop) (mu1 : Int → World → Nat), I1 0 H w ∧
   ∀ (i1 : Int) (Hl1 : Nat → Prop) (wl1 : World), Hst w0 Hl1 wl1 Hl1 wl1 → I1 i1 Hl1 wl1 → m_law09_given_l2 l1 p1 i1 w0 Hl1 wl1 (fun y'0 H' w' => I1 y'0 H' w' ∧ mu1 y'0 w' < mu1 i1 wl1) K)
def m_law09_given (l1 : Sl) (w0 : World) (K : (Option Addr) → Bool → World → Prop) : Prop :=
 Calls Try.prog 22 #[] w0 (fun e w1 => ∃ r1 : Option Addr, e = .returned (vp r1) ∧ 
  Kept None w0 w1 ∧
  Calls Try.prog 63 #[] w1 (fun e w2 => ∃ r2 : Option Addr, e = .returned (vp r2) ∧ 
   Kept None w1 w2 ∧
   ∀ (p1 : Addr) (w3 : World), New w2 (.cells #[(vp r1), (vp none), (vp r2), Sl.nil.v] 36) p1 w3 →
   ∃ v1 : Option Addr, w3.cell? p1 = some (vp v1) ∧
   Calls Try.prog 54 #[(vp v1)] w3 (fun e w4 => ∃ r3 : Option Addr, e = .returned (vp r3) ∧ 
    Kept None w3 w4 ∧
    CanW w4 (p1.add 1) ∧ ¬ None (p1.add 1).block ∧ ∀ w5 : World, w5 = w4.setCell (p1.add 1) (vp r3) →
    ∃ v10 : Option Addr, w5.cell? p1 = some (vp v10) ∧
    Br (Option.isNone v10)
     (m_law09_given_j1 l1 p1 true w0 None w5 K)
     (∃ v11 : Option Addr, w5.cell? (p1.add 1) = some (vp v11) ∧
     m_law09_given_j1 l1 p1 (Option.isNone v11) w0 None w5 K))))
theorem w_law09_given (l1 : Sl) (w0 : World) (K : (Option Addr) → Bool → World → Prop) (h : m_law09_given l1 w0 K) :
  Calls Try.prog 15 #[l1.v] w0 (fun e w' => ∃ r10 : Option Addr, ∃ r11 : Bool, e = .returned (.tuple #[(vp r10), (vb r11)]) ∧ K r10 r11 w') := by
 unfold m_law09_given at h
 refine calls_of_wpE (args := [l1.v]) Try.func15 rfl Try.ntmps15 (Nat.le_of_ble_eq_true rfl) ?_
 have hs := Hst.start w0
 have hb := HB.nil None w0
 refine wpE_seq (rg (q0 (vp none) (q0 (vb false) (wpL_nil (th_n (wpE_seq (rg ?_)))))))
 refine st_call (want0 rfl) (xc Try.call22) (h.mono ?_)
 rintro e w1 ⟨r1, rfl, hk, h⟩
 refine ⟨_, rfl, ?_⟩
 obtain ⟨hs, hb⟩ := hk.hh hs hb
 refine st_call (want0 rfl) (xc Try.call63) (h.mono ?_)
 rintro e w2 ⟨r2, rfl, hk, h⟩
 refine ⟨_, rfl, ?_⟩
 obtain ⟨hs, hb⟩ := hk.hh hs hb
 refine q0 (.agg #[(vp r1), (vp none), (vp r2), Sl.nil.v]) (sn (O := (.cells #[(vp r1), (vp none), (vp r2), Sl.nil.v] 36)) xb ?_)
 intro p1 w3 hn4
 replace h := h p1 w3 hn4
 replace hs := hs.again (Ext.new (F := None) hn4).keptP
 replace hb := hb.kept (Ext.new (F := None) hn4).keptP
 refine q0 (vp (some p1)) (wpL_nil (th_n (wpE_seq (rg (q0 (vp (some p1)) (q0 (vp (some p1)) (q0 (vp (some p1)) (q0 (vp (some p1)) ?_))))))))
 obtain ⟨v1, hv17, h⟩ := h
 refine q2 (vp v1) (xl (Try.isAgg32 _) hv17) ?_
 refine st_call (want0 rfl) (xc Try.call54) (h.mono ?_)
 rintro e w4 ⟨r3, rfl, hk, h⟩
 refine ⟨_, rfl, ?_⟩
 obtain ⟨hs, hb⟩ := hk.hh hs hb
 refine q0 (vp (some p1)) (q0 (vp (some (p1.add 1))) ?_)
 obtain ⟨hp1, hnh, h⟩ := h
 refine st_set (want0 rfl) (x_store (a := (p1.add 1)) (v := (vp r3)) (by kernel_rfl) (by kernel_rfl) rfl (Try.sizeOf33 _) hp1) ?_
 intro w5 hn1
 replace h := h w5 hn1
 have hk : Kept None w4 w5 := by rw [hn1]; exact Kept.setCell hnh
 replace hs := hs.again hk
 replace hb := hb.kept hk
 clear hk hnh
 refine wpL_nil (th_n (wpE_seq (wpE_seq ?_)))
 refine wpE_joinT (fun ρ w => ∃ x1 : Bool, ∃ H : Nat → Prop, Has ρ [(0, l1.v), (4, (vp (some p1))), (35, (vb x1))] ∧ Hst w0 H w H w ∧ HB H w [] ∧ m_law09_given_j1 l1 p1 x1 w0 H w K) ?_ ?_
 ·clear h hs hb
  rintro ρ w ⟨x1, H, hH, hs, hb, h⟩
  unfold m_law09_given_j1 at h
  refine wpE_has hH ?_
  clear hH
  refine wpE_cond (t := x1) (by kernel_rfl) (fun hc1 => ?_) (fun hc1 => ?_)
  ·replace h := h.1 hc1
   refine wpE_seq (rg (q0 (vp none) (q0 (vb false) (wpL_nil (th_n (wpE_ret (th_r (res2 (.inl rfl) Try.results15 (v := (vp none)) (by kernel_rfl) (v' := (vb false)) (by kernel_rfl) ?_))))))))
   exact ⟨none, false, rfl, h⟩
  ·replace h := h.2 hc1
   refine wpE_skip (th_n (wpE_seq (wpE_seq (rg (q0 (vi 0) (wpL_nil (th_n (wpE_block ?_))))))))
   obtain ⟨I1, mu1, h0, hr⟩ := h
   refine wpE_loop (σ := Int × (Nat → Prop) × World) (fun s ρ w => w = s.2.2 ∧ Has ρ [(0, l1.v), (4, (vp (some p1))), (5, (vi s.1))] ∧ Hst w0 s.2.1 w s.2.1 w ∧ HB s.2.1 w [] ∧ I1 s.1 s.2.1 s.2.2) (fun s => mu1 s.1 s.2.2) (0, H, w) ⟨rfl, Has.mk (by kernel_rfl), hs, hb, h0⟩ ?_
   clear hs hb
   rintro ⟨i1, Hl1, wl1⟩ ρ w ⟨hw, hH, hs, hb, hI⟩
   obtain rfl : wl1 = w := (show w = wl1 from hw).symm
   replace hH : Has ρ [(0, l1.v), (4, (vp (some p1))), (5, (vi i1))] := hH
   replace hs : Hst w0 Hl1 wl1 Hl1 wl1 := hs
   replace hb : HB Hl1 wl1 [] := hb
   have h := hr i1 Hl1 wl1 hs hI
   clear hr h0
   unfold m_law09_given_l2 at h
   refine wpE_has hH ?_
   clear hH hI
   refine wpE_seq (wpE_seq (rg (q0 (vi i1) (q0 l1.v (q0 (vi (l1.len : Int)) (q0 (vb (decide (i1 < (l1.len : Int)))) (wpL_nil (th_n ?_))))))))
   refine wpE_cond (t := (decide (i1 < (l1.len : Int)))) (by kernel_rfl) (fun hc2 => ?_) (fun hc2 => ?_)
   ·replace h := h.1 hc2
    refine wpE_skip (th_n (wpE_seq (wpE_block (wpE_seq ?_))))
    obtain ⟨C1, hC, h⟩ := h
    refine wpE_drawnC C1 [8, 9] [] (by kernel_rfl) (by kernel_rfl) (by kernel_rfl) (by kernel_rfl) hC ?_
    clear hC
    intro w6 hw6
    replace h := h w6 hw6
    replace hs : Hst w0 Hl1 wl1 Hl1 w6 := by rw [hw6]; exact hs.drew
    replace hb : HB Hl1 w6 [] := by rw [hw6]; exact hb.drew
    replace hs := hs.here
    refine qx 0 (vp (some p1)) Kp0 (qx 1 (vp (some p1)) Kp1 (qx 2 (vp (some p1)) Kp2 (qgo (k := 3) (by kernel_rfl) ?_)))
    obtain ⟨v2, hv14, h⟩ := h
    refine sx (v := (vp v2)) Kp3 (want0 rfl) (by kernel_rfl) (fun w' hw' => (xl (Try.isAgg32 _) (hv14 w' hw'))) (qx 4 l1.v Kp4 (qx 5 (vi i1) Kp5 (qgo (k := 6) (by kernel_rfl) ?_)))
    obtain ⟨a1, hv13, h⟩ := h
    refine sx (v := (vp (some a1))) Kp6 (want0 rfl) (by kernel_rfl) (fun w' hw' => (x_indexAddr (s := l1) (k := .i64) (i := i1) (by kernel_rfl) (by kernel_rfl) (Try.runUnderlying22 _) (Try.sizeOf46 _) hv13)) (qgo (k := 7) (by kernel_rfl) ?_)
    obtain ⟨aH, aI, aJ, aK, aL, aM, hv12, h⟩ := h
    refine sx (v := (.agg #[(vi aH), (vi aI), (vi aJ), (vu aK), (vs aL), aM.v])) Kp7 (want0 rfl) (by kernel_rfl) (fun w' hw' => (x_loadA (a := a1) (vs := [(vi aH), (vi aI), (vi aJ), (vu aK), (vs aL), aM.v]) (by kernel_rfl) (Try.isAgg46 _) (Try.sizeOf46 _) rfl (hv12 w' hw'))) (lgo (k := 8) (by kernel_rfl) ?_)
    refine sl_call Kp8 (want0 rfl) (by kernel_rfl) (xc Try.call24) (h.mono ?_)
    rintro e w7 ⟨aA, aB, aC, aD, aE, aT, rfl, hC, hk, h⟩
    refine ⟨_, rfl, .inr hC, ?_⟩
    obtain ⟨hs, hb⟩ := hk.hh hs hb
    refine lgo (k := 9) (by kernel_rfl) ?_
    refine sl_call Kp9 (want0 rfl) (by kernel_rfl) (xc Try.call23) (h.mono ?_)
    rintro e w8 ⟨r4, r5, rfl, hC, hk, h⟩
    refine ⟨_, rfl, .inr hC, ?_⟩
    obtain ⟨hs, hb⟩ := hk.hh hs hb
    refine qx 10 (.tuple #[(vi r4), (vi r5)]) (pickA (S8 (pickS (pickS pickZ)))) (qx 11 (vi r4) (pickA (S8 (pickS (pickS (pickS pickZ))))) (qx 12 (vi r5) (pickA (S8 (S4 pickZ))) (qx 13 (vi r4) (pickA (S8 (S4 (pickS pickZ)))) (qx 14 (vi r5) (pickA (S8 (S4 (pickS (pickS pickZ))))) (wpX_nil (by kernel_rfl) (th_n (wpE_seq ?_)))))))
    obtain ⟨C2, hC, h⟩ := h
    refine wpE_drawnC C2 [8] [] (by kernel_rfl) (by kernel_rfl) (by kernel_rfl) (by kernel_rfl) hC ?_
    clear hC
    intro w9 hw9
    replace h := h w9 hw9
    replace hs : Hst w0 Hl1 w8 Hl1 w9 := by rw [hw9]; exact hs.drew
    replace hb : HB Hl1 w9 [] := by rw [hw9]; exact hb.drew
    replace hs := hs.here
    refine qx 0 (vp (some p1)) Kp0 (qx 1 (vp (some p1)) Kp1 (qx 2 (vp (some (p1.add 2))) Kp2 (qgo (k := 3) (by kernel_rfl) ?_)))
    obtain ⟨v3, hv11, h⟩ := h
    refine sx (v := (vp v3)) Kp3 (want0 rfl) (by kernel_rfl) (fun w' hw' => (xl (Try.isAgg34 _) (hv11 w' hw'))) (qx 4 l1.v Kp4 (qx 5 (vi i1) Kp5 (qgo (k := 6) (by kernel_rfl) ?_)))
    obtain ⟨a2, hv10, h⟩ := h
    refine sx (v := (vp (some a2))) Kp6 (want0 rfl) (by kernel_rfl) (fun w' hw' => (x_indexAddr (s := l1) (k := .i64) (i := i1) (by kernel_rfl) (by kernel_rfl) (Try.runUnderlying22 _) (Try.sizeOf46 _) hv10)) (qgo (k := 7) (by kernel_rfl) ?_)
    obtain ⟨aN, aO, aP, aQ, aR, aS, hv9, h⟩ := h
    refine sx (v := (.agg #[(vi aN), (vi aO), (vi aP), (vu aQ), (vs aR), aS.v])) Kp7 (want0 rfl) (by kernel_rfl) (fun w' hw' => (x_loadA (a := a2) (vs := [(vi aN), (vi aO), (vi aP), (vu aQ), (vs aR), aS.v]) (by kernel_rfl) (Try.isAgg46 _) (Try.sizeOf46 _) rfl (hv9 w' hw'))) (lgo (k := 8) (by kernel_rfl) ?_)
    refine sl_call Kp8 (want0 rfl) (by kernel_rfl) (xc Try.call64) (h.mono ?_)
    rintro e w10 ⟨r6, r7, rfl, hC, hk, h⟩
    refine ⟨_, rfl, .inr hC, ?_⟩
    obtain ⟨hs, hb⟩ := hk.hh hs hb
    refine qx 9 (.tuple #[(vi r6), (vi r7)]) Kp9 (qx 10 (vi r6) (pickA (S8 (pickS (pickS pickZ)))) (qx 11 (vi r7) (pickA (S8 (pickS (pickS (pickS pickZ))))) (qx 12 (vi r6) (pickA (S8 (S4 pickZ))) (qx 13 (vi r7) (pickA (S8 (S4 (pickS pickZ)))) (wpX_nil (by kernel_rfl) (th_n (wpE_seq (wpE_seq ?_))))))))
    refine wpE_via (fun ρ wJ => ∃ b1'0 : Bool, ∃ HJ : Nat → Prop, ((r4 != r6) = b1'0) ∧ Hst w0 Hl1 w10 HJ wJ ∧ HB HJ wJ [] ∧ Has ρ [(0, l1.v), (4, (vp (some p1))), (5, (vi i1)), (6, (vi r4)), (8, (vi r6)), (9, (vi r7)), (75, (vb (b1'0 || (r5 != r7))))]) ?_ ?_
    ·skip
     refine rg (q0 (vi r4) (q0 (vi r6) (q0 (vb (r4 != r6)) (q0 (vb (r4 != r6)) ?_))))
     rcases Bool.eq_false_or_eq_true (r4 != r6) with hg2 | hg2
     ·skip
      refine sk (yD 70 hg2) (sk (yD 70 hg2) (sk (yD 70 hg2) (sk (yD 70 hg2) (q2 (vb true) (xT hg2) (wpL_nil (th_n ?_))))))
      exact ⟨true, _, hg2, hs, hb, Has.mk (by kernel_rfl)⟩
     ·skip
      refine q1 (vi r5) (want1 rfl (yD 70 hg2)) ?_
      refine st_call (want1 rfl (yD 70 hg2)) (xc Try.call19) ((p_law09_num r5 w10).mono ?_)
      rintro e w13 ⟨he, hE⟩
      refine ⟨(vi r5), he.trans (by kernel_rfl), ?_⟩
      replace hs := hs.pure hE
      replace hb := hb.pure hE
      clear hE he
      refine q1 (vi r7) (want1 rfl (yD 70 hg2)) (q1 (vb (r5 != r7)) (want1 rfl (yD 70 hg2)) (q2 (vb (r5 != r7)) (xF hg2) (wpL_nil (th_n ?_))))
      exact ⟨false, _, hg2, hs, hb, Has.mk (by kernel_rfl)⟩
    ·clear hs hb
     rintro ρ w12 ⟨b1'0, H1, he0, hs, hb, hH⟩
     subst he0
     refine norm_has hH ?_
     clear hH
     refine th_n ?_
     refine wpE_cond (t := ((r4 != r6) || (r5 != r7))) (by kernel_rfl) (fun hc3 => ?_) (fun hc3 => ?_)
     ·replace h := h.1 hc3
      refine wpE_seq (rg (q0 (vp none) (q0 (vb false) (wpL_nil (th_n (wpE_ret (th_r (bl_r (th_r (th_r (bl_r ?_)))))))))))
      refine th_r ?_
      replace h := h H1 w12 hs
      replace hs := hs.here
      refine res2 (.inl rfl) Try.results15 (v := (vp none)) (by kernel_rfl) (v' := (vb false)) (by kernel_rfl) ?_
      exact ⟨none, false, rfl, h⟩
     ·replace h := h.2 hc3
      refine wpE_skip (th_n (wpE_seq (wpE_seq (rg (q0 (vi r7) (q0 (vb (r7 != 0)) (wpL_nil (th_n ?_))))))))
      refine wpE_cond (t := (r7 != 0)) (by kernel_rfl) (fun hc4 => ?_) (fun hc4 => ?_)
      ·replace h := h.1 hc4
       refine wpE_exit (th_x (bl_eq (th_n (rg (q0 (vi i1) (q0 (vi (IntKind.i64.wrap (i1 + 1))) (q0 (vi (IntKind.i64.wrap (i1 + 1))) (wpL_nil ?_))))))))
       replace h := h H1 w12 hs
       replace hs := hs.here
       refine th_n ?_
       exact ⟨((IntKind.i64.wrap (i1 + 1)), H1, w12), ⟨rfl, Has.mk (by kernel_rfl), hs, hb, h.1⟩, h.2⟩
      ·replace h := h.2 hc4
       refine wpE_skip (th_n (wpE_seq (rg (q0 (vb false) (wpL_nil (th_n (wpE_seq (wpE_seq (rg (q0 (vi 0) (wpL_nil ?_)))))))))))
       refine th_n (wpE_block ?_)
       replace h := h H1 w12 hs
       replace hs := hs.here
       obtain ⟨I2, mu2, h0, hr⟩ := h
       refine wpE_loop (σ := Bool × Int × (Nat → Prop) × World) (fun s ρ w => w = s.2.2.2 ∧ Has ρ [(0, l1.v), (4, (vp (some p1))), (5, (vi i1)), (6, (vi r4)), (8, (vi r6)), (10, (vb s.1)), (11, (vi s.2.1))] ∧ Hst w0 s.2.2.1 w s.2.2.1 w ∧ HB s.2.2.1 w [] ∧ I2 s.1 s.2.1 s.2.2.1 s.2.2.2) (fun s => mu2 s.1 s.2.1 s.2.2.2) (false, 0, H1, w12) ⟨rfl, Has.mk (by kernel_rfl), hs, hb, h0⟩ ?_
       clear hs hb
       rintro ⟨there1, k1, Hl2, wl2⟩ ρ w ⟨hw, hH, hs, hb, hI⟩
       obtain rfl : wl2 = w := (show w = wl2 from hw).symm
       replace hH : Has ρ [(0, l1.v), (4, (vp (some p1))), (5, (vi i1)), (6, (vi r4)), (8, (vi r6)), (10, (vb there1)), (11, (vi k1))] := hH
       replace hs : Hst w0 Hl2 wl2 Hl2 wl2 := hs
       replace hb : HB Hl2 wl2 [] := hb
       have h := hr there1 k1 Hl2 wl2 hs hI
       clear hr h0
       unfold m_law09_given_l3 at h
       refine wpE_has hH ?_
       clear hH hI
       refine wpE_seq (wpE_seq (rg (q0 (vi k1) (q0 (vp (some p1)) (q0 (vp (some p1)) (q0 (vp (some (p1.add 3))) ?_))))))
       obtain ⟨v4, hv8, h⟩ := h
       refine q2 v4.v (xl (Try.isAgg30 _) hv8) (q0 (vi (v4.len : Int)) (q0 (vb (decide (k1 < (v4.len : Int)))) (wpL_nil (th_n ?_))))
       refine wpE_cond (t := (decide (k1 < (v4.len : Int)))) (by kernel_rfl) (fun hc5 => ?_) (fun hc5 => ?_)
       ·replace h := h.1 hc5
        refine wpE_skip (th_n (wpE_seq ?_))
        refine wpE_joinT (fun ρ w => ∃ there2 : Bool, ∃ H : Nat → Prop, Has ρ [(0, l1.v), (4, (vp (some p1))), (5, (vi i1)), (6, (vi r4)), (8, (vi r6)), (10, (vb there2)), (11, (vi k1))] ∧ Hst w0 H w H w ∧ HB H w [] ∧ m_law09_given_j4 k1 there2 H w (fun y'0 y'1 H' w' => I2 y'0 y'1 H' w' ∧ mu2 y'0 y'1 w' < mu2 there1 k1 wl2) K) ?_ ?_
        ·clear h hs hb
         rintro ρ w ⟨there2, H, hH, hs, hb, h⟩
         unfold m_law09_given_j4 at h
         refine wpE_has hH ?_
         clear hH
         refine rg (q0 (vi k1) (q0 (vi (IntKind.i64.wrap (k1 + 1))) (q0 (vi (IntKind.i64.wrap (k1 + 1))) (wpL_nil (th_n ?_)))))
         exact ⟨(there2, (IntKind.i64.wrap (k1 + 1)), H, w), ⟨rfl, Has.mk (by kernel_rfl), hs, hb, h.1⟩, h.2⟩
        ·skip
         refine wpE_block (rg (q0 (vb there1) (q0 (vb there1) ?_)))
         rcases Bool.eq_false_or_eq_true there1 with hg3 | hg3
         ·replace h := h.1 hg3
          refine sk (yD 88 hg3) (sk (yD 88 hg3) (sk (yD 88 hg3) (sk (yD 88 hg3) (sk (yD 88 hg3) (sk (yD 88 hg3) (sk (yD 88 hg3) (sk (yD 88 hg3) (sk (yD 88 hg3) (q2 (vb true) (xT hg3) (q0 (vb true) (wpL_nil ?_)))))))))))
          refine bl_n (th_n ?_)
          exact ⟨true, Hl2, Has.mk (by kernel_rfl), hs, hb, h⟩
         ·replace h := h.2 hg3
          refine q1 (vp (some p1)) (want1 rfl (yD 88 hg3)) (q1 (vp (some p1)) (want1 rfl (yD 88 hg3)) (q1 (vp (some (p1.add 3))) (want1 rfl (yD 88 hg3)) ?_))
          obtain ⟨v5, hv3, h⟩ := h
          refine stp (v := v5.v) (want1 rfl (yD 88 hg3)) (xl (Try.isAgg30 _) hv3) (q1 (vi k1) (want1 rfl (yD 88 hg3)) ?_)
          obtain ⟨a3, hv2, h⟩ := h
          refine stp (v := (vp (some a3))) (want1 rfl (yD 88 hg3)) (x_indexAddr (s := v5) (k := .i64) (i := k1) (by kernel_rfl) (by kernel_rfl) (Try.runUnderlying30 _) (Try.sizeOf38 _) hv2) ?_
          obtain ⟨v6, hv1, h⟩ := h
          refine stp (v := (vi v6)) (want1 rfl (yD 88 hg3)) (xl (Try.isAgg38 _) hv1) (q1 (vi r6) (want1 rfl (yD 88 hg3)) (q1 (vb (v6 == r6)) (want1 rfl (yD 88 hg3)) (q2 (vb (v6 == r6)) (xF hg3) (q0 (vb (v6 == r6)) (wpL_nil (bl_n (th_n ?_)))))))
          exact ⟨(v6 == r6), Hl2, Has.mk (by kernel_rfl), hs, hb, h⟩
       ·replace h := h.2 hc5
        refine wpE_exit (th_x (th_x (bl_eq (th_n (wpE_seq (wpE_seq (rg (q0 (vb there1) (q0 (vb (!there1)) (wpL_nil (th_n ?_)))))))))))
        refine wpE_cond (t := (!there1)) (by kernel_rfl) (fun hc6 => ?_) (fun hc6 => ?_)
        ·replace h := h.1 hc6
         refine rg (q0 (vp (some p1)) (q0 (vp (some p1)) (q0 (vp (some p1)) (q0 (vp (some (p1.add 3))) ?_))))
         obtain ⟨v7, hv6, h⟩ := h
         refine q2 v7.v (xl (Try.isAgg30 _) hv6) (q0 (vi r6) (st_new (O := (.cells #[(vi r6)] 38)) (fun p => (Sl.mk (some p) 1 1).v) (want0 rfl) (x_buildSlice (vs := #[(0, (vi r6))]) (by kernel_rfl) (by kernel_rfl)) ?_))
         intro p2 w14 hn3
         replace h := h p2 w14 hn3
         replace hs := hs.again (Ext.new (F := None) hn3).keptP
         replace hb := hb.kept (Ext.new (F := None) hn3).keptP
         obtain ⟨s1, w15, hv5, hk, h⟩ := h
         refine st (v := s1.v) (want0 rfl) (x_builtin (args := #[v7.v, (Sl.mk (some p2) 1 1).v]) (by kernel_rfl) (fun _ => rfl) hv5) ?_
         obtain ⟨hs, hb⟩ := hk.hh hs hb
         refine q0 (vp (some p1)) (q0 (vp (some (p1.add 3))) ?_)
         obtain ⟨hp2, hnh, h⟩ := h
         refine st_set (want0 rfl) (x_store (a := (p1.add 3)) (v := s1.v) (by kernel_rfl) (by kernel_rfl) rfl (Try.sizeOf30 _) hp2) ?_
         intro w16 hn2
         replace h := h w16 hn2
         have hk : Kept Hl2 w15 w16 := by rw [hn2]; exact Kept.setCell hnh
         replace hs := hs.again hk
         replace hb := hb.kept hk
         clear hk hnh
         refine wpL_nil (th_n (rg (q0 (vp (some p1)) (q0 (vp (some p1)) (q0 (vp (some (p1.add 1))) ?_)))))
         obtain ⟨v8, hv4, h⟩ := h
         refine q2 (vp v8) (xl (Try.isAgg33 _) hv4) (q0 (vi r4) ?_)
         refine st_call (want0 rfl) (xc Try.call56) (h.mono ?_)
         rintro e w17 ⟨r8, rfl, hk, h⟩
         refine ⟨_, rfl, ?_⟩
         obtain ⟨hs, hb⟩ := hk.hh hs hb
         refine wpL_nil (bl_n (th_n (rg (q0 (vi i1) (q0 (vi (IntKind.i64.wrap (i1 + 1))) (q0 (vi (IntKind.i64.wrap (i1 + 1))) (wpL_nil (th_n ?_))))))))
         exact ⟨((IntKind.i64.wrap (i1 + 1)), Hl2, w17), ⟨rfl, Has.mk (by kernel_rfl), hs, hb, h.1⟩, h.2⟩
        ·replace h := h.2 hc6
         refine wpE_skip (th_n (rg (q0 (vp (some p1)) (q0 (vp (some p1)) (q0 (vp (some (p1.add 1))) ?_)))))
         obtain ⟨v9, hv7, h⟩ := h
         refine q2 (vp v9) (xl (Try.isAgg33 _) hv7) (q0 (vi r4) ?_)
         refine st_call (want0 rfl) (xc Try.call56) (h.mono ?_)
         rintro e w18 ⟨r9, rfl, hk, h⟩
         refine ⟨_, rfl, ?_⟩
         obtain ⟨hs, hb⟩ := hk.hh hs hb
         refine wpL_nil (bl_n (th_n (rg (q0 (vi i1) (q0 (vi (IntKind.i64.wrap (i1 + 1))) (q0 (vi (IntKind.i64.wrap (i1 + 1))) (wpL_nil (th_n ?_))))))))
         exact ⟨((IntKind.i64.wrap (i1 + 1)), Hl2, w18), ⟨rfl, Has.mk (by kernel_rfl), hs, hb, h.1⟩, h.2⟩
   ·replace h := h.2 hc2
    refine wpE_exit (th_x (th_x (bl_eq (th_n (wpE_seq (rg (q0 (vp (some p1)) (q0 (vp (some p1)) (q0 (vb true) (wpL_nil (th_n ?_)))))))))))
    refine wpE_ret (res2 (.inl rfl) Try.results15 (v := (vp (some p1))) (by kernel_rfl) (v' := (vb true)) (by kernel_rfl) ?_)
    exact ⟨(some p1), true, rfl, h⟩
 ·skip
  refine rg (q0 (vp (some p1)) (q0 (vp (some p1)) (q0 (vp (some p1)) ?_)))
  obtain ⟨v10, hv16, h⟩ := h
  refine q2 (vp v10) (xl (Try.isAgg32 _) hv16) (q2 (vb (Option.isNone v10)) (x_ptreq (by kernel_rfl) rfl Try.underlying32) (q0 (vb (Option.isNone v10)) ?_))
  rcases Bool.eq_false_or_eq_true (Option.isNone v10) with hg4 | hg4
  ·replace h := h.1 hg4
   refine sk (yD 29 hg4) (sk (yD 29 hg4) (sk (yD 29 hg4) (sk (yD 29 hg4) (sk (yD 29 hg4) (q2 (vb true) (xT hg4) (wpL_nil (th_n ?_)))))))
   exact ⟨true, None, Has.mk (by kernel_rfl), hs, hb, h⟩
  ·replace h := h.2 hg4
   refine q1 (vp (some p1)) (want1 rfl (yD 29 hg4)) (q1 (vp (some p1)) (want1 rfl (yD 29 hg4)) (q1 (vp (some (p1.add 1))) (want1 rfl (yD 29 hg4)) ?_))
   obtain ⟨v11, hv15, h⟩ := h
   refine stp (v := (vp v11)) (want1 rfl (yD 29 hg4)) (xl (Try.isAgg33 _) hv15) (stp (v := (vb (Option.isNone v11))) (want1 rfl (yD 29 hg4)) (x_ptreq (by kernel_rfl) rfl Try.underlying33) (q2 (vb (Option.isNone v11)) (xF hg4) (wpL_nil (th_n ?_))))
   exact ⟨(Option.isNone v11), None, Has.mk (by kernel_rfl), hs, hb, h⟩
def m_law09_live  (w0 : World) (K : Bool → World → Prop) : Prop :=
 ∀ (p1 : Addr) (w1 : World), New w0 (.cells #[(vi 2), (vi 0), (vi 0), (vu 1), (vs ⟨#[]⟩), Sl.nil.v] 46) p1 w1 →
 ∀ (p2 : Addr) (w2 : World), New w1 (.cells #[(vi 7), (vi 0), (vi 0), (vu 0), (vs ⟨#[]⟩), (Sl.mk (some p1) 1 1).v, (vi 6), (vi 0), (vi 0), (vu 0), (vs ⟨#[]⟩), Sl.nil.v] 46) p2 w2 →
 Calls Try.prog 15 #[(Sl.mk (some p2) 2 2).v] w2 (fun e w3 => ∃ r1 : Option Addr, ∃ r2 : Bool, e = .returned (.tuple #[(vp r1), (vb r2)]) ∧ 
  Kept None w2 w3 ∧
  Br (!r2)
   (K false w3)
   (∃ C1 : World → Prop, C1 w3.drew ∧ ∀ w4, w4 = w3.drew →
   ∃ a1 : Addr, r1 = some a1 ∧
   ∃ v1 : Option Addr, (∀ w', C1 w' → w'.cell? a1 = some (vp v1)) ∧
   ∃ a2 : Addr, r1 = some a2 ∧
   ∃ v2 : Option Addr, (∀ w', C1 w' → w'.cell? (a2.add 1) = some (vp v2)) ∧
   ∀ (p3 : Addr) (w5 : World), New w4 (.cells #[(vi 0), (vi 0), (vi 0), (vu 0), (vs ⟨#[]⟩), (vi 8), (vi 0), (vi 0), (vu 0), (vs ⟨#[]⟩), (vi 5), (vi 1), (vi 0), (vu 0), (vs ⟨#[]⟩), (vi 0), (vi 1), (vi 0), (vu 0), (vs ⟨#[]⟩), (vi 9), (vi 2), (vi 3), (vu 0), (vs ⟨#[]⟩)] 103) p3 w5 → C1 w5 ∧
   Calls Try.prog 18 #[(vp v1), (vp v2), (Sl.mk (some p3) 5 5).v] w5 (fun e w6 => ∃ r3 r4 r5 : Int, e = .returned (.tuple #[(vi r3), (vi r4), (vi r5)]) ∧ C1 w6 ∧ 
    Kept None w5 w6 ∧
    ∃ C2 : World → Prop, C2 w6.drew ∧ ∀ w7, w7 = w6.drew →
    ∃ a3 : Addr, r1 = some a3 ∧
    ∃ v3 : Option Addr, (∀ w', C2 w' → w'.cell? a3 = some (vp v3)) ∧
    ∃ a4 : Addr, r1 = some a4 ∧
    ∃ v4 : Option Addr, (∀ w', C2 w' → w'.cell? (a4.add 1) = some (vp v4)) ∧
    ∀ (p4 : Addr) (w8 : World), New w7 (.cells #[(vi 0), (vi 0), (vi 0), (vu 0), (vs ⟨#[]⟩), (vi 6), (vi 0), (vi 0), (vu 0), (vs ⟨#[]⟩)] 103) p4 w8 → C2 w8 ∧
    Calls Try.prog 18 #[(vp v3), (vp v4), (Sl.mk (some p4) 2 2).v] w8 (fun e w9 => ∃ r6 r7 r8 : Int, e = .returned (.tuple #[(vi r6), (vi r7), (vi r8)]) ∧ C2 w9 ∧ 
     Kept None w8 w9 ∧
     ∃ a5 : Addr, r1 = some a5 ∧
     ∃ v5 : Option Addr, w9.cell? a5 = some (vp v5) ∧
     Calls Try.prog 62 #[(vp v5), (vi r3)] w9 (fun e w10 => ∃ aA aB : Int, ∃ aC aD : Int, ∃ aE : ByteArray, ∃ aF aG : Int, ∃ r9 : Bool, e = .returned (.tuple #[(.agg #[(vi aA), (vi aB), (vi aC), (vu aD), (vs aE), (vi aF), (vi aG)]), (vb r9)]) ∧ 
      Kept None w9 w10 ∧
      ∀ (H6 : Nat → Prop) (w20 : World), Hst w0 None w10 H6 w20 →
      K (((((r4 == 0) && (aA == 7)) && (aB == 0)) && (r7 == 90)) && (r8 == 1)) w20)))))
theorem w_law09_live  (w0 : World) (K : Bool → World → Prop) (h : m_law09_live  w0 K) :
  Calls Try.prog 14 #[] w0 (fun e w' => ∃ r10 : Bool, e = .returned (vb r10) ∧ K r10 w') := by
 unfold m_law09_live at h
 refine calls_of_wpE (args := []) Try.func14 rfl Try.ntmps14 (Nat.le_of_ble_eq_true rfl) ?_
 have hs := Hst.start w0
 have hb := HB.nil None w0
 refine wpE_seq (rg (q0 (vb false) (wpL_nil (th_n (wpE_seq (rg (q0 (.agg #[(vi 2), (vi 0), (vi 0), (vu 1), (vs ⟨#[]⟩), Sl.nil.v]) (st_new (O := (.cells #[(vi 2), (vi 0), (vi 0), (vu 1), (vs ⟨#[]⟩), Sl.nil.v] 46)) (fun p => (Sl.mk (some p) 1 1).v) (want0 rfl) (x_buildSlice (vs := #[(0, (.agg #[(vi 2), (vi 0), (vi 0), (vu 1), (vs ⟨#[]⟩), Sl.nil.v]))]) (by kernel_rfl) (by kernel_rfl)) ?_))))))))
 intro p1 w1 hn6
 replace h := h p1 w1 hn6
 replace hs := hs.again (Ext.new (F := None) hn6).keptP
 replace hb := hb.kept (Ext.new (F := None) hn6).keptP
 refine q0 (.agg #[(vi 7), (vi 0), (vi 0), (vu 0), (vs ⟨#[]⟩), (Sl.mk (some p1) 1 1).v]) (q0 (.agg #[(vi 6), (vi 0), (vi 0), (vu 0), (vs ⟨#[]⟩), Sl.nil.v]) (st_new (O := (.cells #[(vi 7), (vi 0), (vi 0), (vu 0), (vs ⟨#[]⟩), (Sl.mk (some p1) 1 1).v, (vi 6), (vi 0), (vi 0), (vu 0), (vs ⟨#[]⟩), Sl.nil.v] 46)) (fun p => (Sl.mk (some p) 2 2).v) (want0 rfl) (x_buildSlice (vs := #[(0, (.agg #[(vi 7), (vi 0), (vi 0), (vu 0), (vs ⟨#[]⟩), (Sl.mk (some p1) 1 1).v])), (1, (.agg #[(vi 6), (vi 0), (vi 0), (vu 0), (vs ⟨#[]⟩), Sl.nil.v]))]) (by kernel_rfl) (by kernel_rfl)) ?_))
 intro p2 w2 hn5
 replace h := h p2 w2 hn5
 replace hs := hs.again (Ext.new (F := None) hn5).keptP
 replace hb := hb.kept (Ext.new (F := None) hn5).keptP
 refine st_call (want0 rfl) (xc Try.call15) (h.mono ?_)
 rintro e w3 ⟨r1, r2, rfl, hk, h⟩
 refine ⟨_, rfl, ?_⟩
 obtain ⟨hs, hb⟩ := hk.hh hs hb
 refine q0 (.tuple #[(vp r1), (vb r2)]) (q0 (vp r1) (q0 (vb r2) (q0 (vp r1) (q0 (vb r2) (wpL_nil (th_n (wpE_seq (wpE_seq (rg (q0 (vb r2) (q0 (vb (!r2)) ?_)))))))))))
 refine wpL_nil (th_n ?_)
 refine wpE_cond (t := (!r2)) (by kernel_rfl) (fun hc1 => ?_) (fun hc1 => ?_)
 ·replace h := h.1 hc1
  refine wpE_seq (rg (q0 (vb false) (wpL_nil (th_n (wpE_ret (th_r (res1 (.inl rfl) Try.results14 (v := (vb false)) (by kernel_rfl) ?_)))))))
  exact ⟨false, rfl, h⟩
 ·replace h := h.2 hc1
  refine wpE_skip (th_n (wpE_seq ?_))
  obtain ⟨C1, hC, h⟩ := h
  refine wpE_drawnC C1 [13, 14] [] (by kernel_rfl) (by kernel_rfl) (by kernel_rfl) (by kernel_rfl) hC ?_
  clear hC
  intro w4 hw4
  replace h := h w4 hw4
  replace hs : Hst w0 None w3 None w4 := by rw [hw4]; exact hs.drew
  replace hb : HB None w4 [] := by rw [hw4]; exact hb.drew
  replace hs := hs.here
  refine qx 0 (vp r1) Kp0 (qgo (k := 1) (by kernel_rfl) ?_)
  obtain ⟨a1, hp1, h⟩ := h
  refine sx (v := (vp (some a1))) Kp1 (want0 rfl) (by kernel_rfl) (fun w' hw' => (x_nilCheck (p := r1) (by kernel_rfl) hp1)) (qx 2 (vp (some a1)) Kp2 (qgo (k := 3) (by kernel_rfl) ?_))
  obtain ⟨v1, hv5, h⟩ := h
  refine sx (v := (vp v1)) Kp3 (want0 rfl) (by kernel_rfl) (fun w' hw' => (xl (Try.isAgg32 _) (hv5 w' hw'))) (qx 4 (vp r1) Kp4 (qgo (k := 5) (by kernel_rfl) ?_))
  obtain ⟨a2, hp2, h⟩ := h
  refine sx (v := (vp (some a2))) Kp5 (want0 rfl) (by kernel_rfl) (fun w' hw' => (x_nilCheck (p := r1) (by kernel_rfl) hp2)) (qx 6 (vp (some (a2.add 1))) Kp6 (qgo (k := 7) (by kernel_rfl) ?_))
  obtain ⟨v2, hv4, h⟩ := h
  refine sx (v := (vp v2)) Kp7 (want0 rfl) (by kernel_rfl) (fun w' hw' => (xl (Try.isAgg33 _) (hv4 w' hw'))) (qx 8 (.agg #[(vi 0), (vi 0), (vi 0), (vu 0), (vs ⟨#[]⟩)]) Kp8 (qx 9 (.agg #[(vi 8), (vi 0), (vi 0), (vu 0), (vs ⟨#[]⟩)]) Kp9 (qx 10 (.agg #[(vi 5), (vi 1), (vi 0), (vu 0), (vs ⟨#[]⟩)]) (pickA (S8 (pickS (pickS pickZ)))) (qx 11 (.agg #[(vi 0), (vi 1), (vi 0), (vu 0), (vs ⟨#[]⟩)]) (pickA (S8 (pickS (pickS (pickS pickZ))))) (qx 12 (.agg #[(vi 9), (vi 2), (vi 3), (vu 0), (vs ⟨#[]⟩)]) (pickA (S8 (S4 pickZ))) (lgo (k := 13) (by kernel_rfl) (sl_new (O := (.cells #[(vi 0), (vi 0), (vi 0), (vu 0), (vs ⟨#[]⟩), (vi 8), (vi 0), (vi 0), (vu 0), (vs ⟨#[]⟩), (vi 5), (vi 1), (vi 0), (vu 0), (vs ⟨#[]⟩), (vi 0), (vi 1), (vi 0), (vu 0), (vs ⟨#[]⟩), (vi 9), (vi 2), (vi 3), (vu 0), (vs ⟨#[]⟩)] 103)) (fun p => (Sl.mk (some p) 5 5).v) (pickA (S8 (S4 (pickS pickZ)))) (want0 rfl) (by kernel_rfl) (x_buildSlice (vs := #[(0, (.agg #[(vi 0), (vi 0), (vi 0), (vu 0), (vs ⟨#[]⟩)])), (1, (.agg #[(vi 8), (vi 0), (vi 0), (vu 0), (vs ⟨#[]⟩)])), (2, (.agg #[(vi 5), (vi 1), (vi 0), (vu 0), (vs ⟨#[]⟩)])), (3, (.agg #[(vi 0), (vi 1), (vi 0), (vu 0), (vs ⟨#[]⟩)])), (4, (.agg #[(vi 9), (vi 2), (vi 3), (vu 0), (vs ⟨#[]⟩)]))]) (by kernel_rfl) (by kernel_rfl)) ?_)))))))
  intro p3 w5 hn4
  replace h := h p3 w5 hn4
  refine ⟨.inr h.1, ?_⟩
  replace h := h.2
  replace hs := hs.again (Ext.new (F := None) hn4).keptP
  replace hb := hb.kept (Ext.new (F := None) hn4).keptP
  refine lgo (k := 14) (by kernel_rfl) ?_
  refine sl_call (pickA (S8 (S4 (pickS (pickS pickZ))))) (want0 rfl) (by kernel_rfl) (xc Try.call18) (h.mono ?_)
  rintro e w6 ⟨r3, r4, r5, rfl, hC, hk, h⟩
  refine ⟨_, rfl, .inr hC, ?_⟩
  obtain ⟨hs, hb⟩ := hk.hh hs hb
  refine qx 15 (.tuple #[(vi r3), (vi r4), (vi r5)]) (pickA (S8 (S4 (pickS (pickS (pickS pickZ)))))) (qx 16 (vi r3) (pickA (S8 (S8 pickZ))) (qx 17 (vi r4) (pickA (S8 (S8 (pickS pickZ)))) (qx 18 (vi r5) (pickA (S8 (S8 (pickS (pickS pickZ))))) (qx 19 (vi r3) (pickA (S8 (S8 (pickS (pickS (pickS pickZ)))))) (qx 20 (vi r4) (pickA (S8 (S8 (S4 pickZ)))) (qx 21 (vi r5) (pickA (S8 (S8 (S4 (pickS pickZ))))) (wpX_nil (by kernel_rfl) (th_n (wpE_seq ?_)))))))))
  obtain ⟨C2, hC, h⟩ := h
  refine wpE_drawnC C2 [10, 11] [] (by kernel_rfl) (by kernel_rfl) (by kernel_rfl) (by kernel_rfl) hC ?_
  clear hC
  intro w7 hw7
  replace h := h w7 hw7
  replace hs : Hst w0 None w6 None w7 := by rw [hw7]; exact hs.drew
  replace hb : HB None w7 [] := by rw [hw7]; exact hb.drew
  replace hs := hs.here
  refine qx 0 (vp r1) Kp0 (qgo (k := 1) (by kernel_rfl) ?_)
  obtain ⟨a3, hp3, h⟩ := h
  refine sx (v := (vp (some a3))) Kp1 (want0 rfl) (by kernel_rfl) (fun w' hw' => (x_nilCheck (p := r1) (by kernel_rfl) hp3)) (qx 2 (vp (some a3)) Kp2 (qgo (k := 3) (by kernel_rfl) ?_))
  obtain ⟨v3, hv3, h⟩ := h
  refine sx (v := (vp v3)) Kp3 (want0 rfl) (by kernel_rfl) (fun w' hw' => (xl (Try.isAgg32 _) (hv3 w' hw'))) (qx 4 (vp r1) Kp4 (qgo (k := 5) (by kernel_rfl) ?_))
  obtain ⟨a4, hp4, h⟩ := h
  refine sx (v := (vp (some a4))) Kp5 (want0 rfl) (by kernel_rfl) (fun w' hw' => (x_nilCheck (p := r1) (by kernel_rfl) hp4)) (qx 6 (vp (some (a4.add 1))) Kp6 (qgo (k := 7) (by kernel_rfl) ?_))
  obtain ⟨v4, hv2, h⟩ := h
  refine sx (v := (vp v4)) Kp7 (want0 rfl) (by kernel_rfl) (fun w' hw' => (xl (Try.isAgg33 _) (hv2 w' hw'))) (qx 8 (.agg #[(vi 0), (vi 0), (vi 0), (vu 0), (vs ⟨#[]⟩)]) Kp8 (qx 9 (.agg #[(vi 6), (vi 0), (vi 0), (vu 0), (vs ⟨#[]⟩)]) Kp9 (lgo (k := 10) (by kernel_rfl) (sl_new (O := (.cells #[(vi 0), (vi 0), (vi 0), (vu 0), (vs ⟨#[]⟩), (vi 6), (vi 0), (vi 0), (vu 0), (vs ⟨#[]⟩)] 103)) (fun p => (Sl.mk (some p) 2 2).v) (pickA (S8 (pickS (pickS pickZ)))) (want0 rfl) (by kernel_rfl) (x_buildSlice (vs := #[(0, (.agg #[(vi 0), (vi 0), (vi 0), (vu 0), (vs ⟨#[]⟩)])), (1, (.agg #[(vi 6), (vi 0), (vi 0), (vu 0), (vs ⟨#[]⟩)]))]) (by kernel_rfl) (by kernel_rfl)) ?_))))
  intro p4 w8 hn3
  replace h := h p4 w8 hn3
  refine ⟨.inr h.1, ?_⟩
  replace h := h.2
  replace hs := hs.again (Ext.new (F := None) hn3).keptP
  replace hb := hb.kept (Ext.new (F := None) hn3).keptP
  refine lgo (k := 11) (by kernel_rfl) ?_
  refine sl_call (pickA (S8 (pickS (pickS (pickS pickZ))))) (want0 rfl) (by kernel_rfl) (xc Try.call18) (h.mono ?_)
  rintro e w9 ⟨r6, r7, r8, rfl, hC, hk, h⟩
  refine ⟨_, rfl, .inr hC, ?_⟩
  obtain ⟨hs, hb⟩ := hk.hh hs hb
  refine qx 12 (.tuple #[(vi r6), (vi r7), (vi r8)]) (pickA (S8 (S4 pickZ))) (qx 13 (vi r6) (pickA (S8 (S4 (pickS pickZ)))) (qx 14 (vi r7) (pickA (S8 (S4 (pickS (pickS pickZ))))) (qx 15 (vi r8) (pickA (S8 (S4 (pickS (pickS (pickS pickZ)))))) (qx 16 (vi r6) (pickA (S8 (S8 pickZ))) (qx 17 (vi r7) (pickA (S8 (S8 (pickS pickZ)))) (qx 18 (vi r8) (pickA (S8 (S8 (pickS (pickS pickZ))))) (wpX_nil (by kernel_rfl) (th_n (wpE_seq (rg (q0 (vp r1) ?_)))))))))))
  obtain ⟨a5, hp5, h⟩ := h
  refine q2 (vp (some a5)) (x_nilCheck (p := r1) (by kernel_rfl) hp5) (q0 (vp (some a5)) ?_)
  obtain ⟨v5, hv1, h⟩ := h
  refine q2 (vp v5) (xl (Try.isAgg32 _) hv1) (q0 (vi r3) ?_)
  refine st_call (want0 rfl) (xc Try.call62) (h.mono ?_)
  rintro e w10 ⟨aA, aB, aC, aD, aE, aF, aG, r9, rfl, hk, h⟩
  refine ⟨_, rfl, ?_⟩
  obtain ⟨hs, hb⟩ := hk.hh hs hb
  refine q0 (.tuple #[(.agg #[(vi aA), (vi aB), (vi aC), (vu aD), (vs aE), (vi aF), (vi aG)]), (vb r9)]) (q0 (.agg #[(vi aA), (vi aB), (vi aC), (vu aD), (vs aE), (vi aF), (vi aG)]) (q0 (vb r9) (sn (O := (.cells #[(vi 0), (vi 0), (vi 0), (vu 0), (vs ⟨#[]⟩), (vi 0), (vi 0)] 105)) (x_alloc (Try.zeroValue105 _) rfl) ?_)))
  intro p5 w11 hn1
  obtain ⟨H1, hs, hb⟩ := hs.alloc hb hn1
  refine st_set (want0 rfl) (x_storeA (a := p5) (vs := [(vi aA), (vi aB), (vi aC), (vu aD), (vs aE), (vi aF), (vi aG)]) (by kernel_rfl) (by kernel_rfl) rfl (Try.sizeOf105 _) rfl (hb.canWs0 0 7 gZ (by kernel_rfl))) ?_
  intro w12 hn2
  have hsb : Hst w0 None w10 H1 w12 ∧ HB H1 w12 [(p5, [(vi aA), (vi aB), (vi aC), (vu aD), (vs aE), (vi aF), (vi aG)], 105)] := by
   rw [hn2]
   exact hb.store0 (i := 0) (vs := [(vi aA), (vi aB), (vi aC), (vu aD), (vs aE), (vi aF), (vi aG)]) hs gZ (by kernel_rfl) (by kernel_rfl)
  clear hs hb hn2
  obtain ⟨hs, hb⟩ := hsb
  refine q0 (vb r9) (wpL_nil (th_n (wpE_seq ?_)))
  refine wpE_via (fun ρ wJ => ∃ HJ : Nat → Prop, Hst w0 None w10 HJ wJ ∧ HB HJ wJ [(p5, [(vi aA), (vi aB), (vi aC), (vu aD), (vs aE), (vi aF), (vi aG)], 105)] ∧ Has ρ [(0, (vb (((((r4 == 0) && (aA == 7)) && (aB == 0)) && (r7 == 90)) && (r8 == 1))))]) ?_ ?_
  ·skip
   refine rg (q0 (vi r4) ?_)
   refine st_call (want0 rfl) (xc Try.call19) ((p_law09_num r4 w12).mono ?_)
   rintro e w21 ⟨he, hE⟩
   refine ⟨(vi r4), he.trans (by kernel_rfl), ?_⟩
   replace hs := hs.pure hE
   replace hb := hb.pure hE
   clear hE he
   refine q0 (vb (r4 == 0)) (q0 (vb (r4 == 0)) ?_)
   refine wpL_join 4 (fun ρ wJ => ∃ b6'0 : Bool, ∃ HJ : Nat → Prop, ((r4 == 0) = b6'0) ∧ Hst w0 None w10 HJ wJ ∧ HB HJ wJ [(p5, [(vi aA), (vi aB), (vi aC), (vu aD), (vs aE), (vi aF), (vi aG)], 105)] ∧ Has ρ [(7, (vi r7)), (8, (vi r8)), (9, (vp (some p5))), (73, (vb (b6'0 && (aA == 7))))]) ?_ ?_
   ·clear hs hb
    rintro ρ w22 ⟨b6'0, H7, he0, hs, hb, hH⟩
    subst he0
    refine wpL_has hH ?_
    clear hH
    refine q0 (vb ((r4 == 0) && (aA == 7))) ?_
    refine wpL_join 4 (fun ρ wJ => ∃ b7'0 : Bool, ∃ HJ : Nat → Prop, (((r4 == 0) && (aA == 7)) = b7'0) ∧ Hst w0 None w10 HJ wJ ∧ HB HJ wJ [(p5, [(vi aA), (vi aB), (vi aC), (vu aD), (vs aE), (vi aF), (vi aG)], 105)] ∧ Has ρ [(7, (vi r7)), (8, (vi r8)), (78, (vb (b7'0 && (aB == 0))))]) ?_ ?_
    ·clear hs hb
     rintro ρ w23 ⟨b7'0, H8, he0, hs, hb, hH⟩
     subst he0
     refine wpL_has hH ?_
     clear hH
     refine q0 (vb (((r4 == 0) && (aA == 7)) && (aB == 0))) ?_
     refine wpL_join 4 (fun ρ wJ => ∃ b8'0 : Bool, ∃ HJ : Nat → Prop, ((((r4 == 0) && (aA == 7)) && (aB == 0)) = b8'0) ∧ Hst w0 None w10 HJ wJ ∧ HB HJ wJ [(p5, [(vi aA), (vi aB), (vi aC), (vu aD), (vs aE), (vi aF), (vi aG)], 105)] ∧ Has ρ [(8, (vi r8)), (83, (vb (b8'0 && (r7 == 90))))]) ?_ ?_
     ·clear hs hb
      rintro ρ w25 ⟨b8'0, H9, he0, hs, hb, hH⟩
      subst he0
      refine wpL_has hH ?_
      clear hH
      refine q0 (vb ((((r4 == 0) && (aA == 7)) && (aB == 0)) && (r7 == 90))) ?_
      refine wpL_join 3 (fun ρ wJ => ∃ b9'0 : Bool, ∃ HJ : Nat → Prop, (((((r4 == 0) && (aA == 7)) && (aB == 0)) && (r7 == 90)) = b9'0) ∧ Hst w0 None w10 HJ wJ ∧ HB HJ wJ [(p5, [(vi aA), (vi aB), (vi aC), (vu aD), (vs aE), (vi aF), (vi aG)], 105)] ∧ Has ρ [(87, (vb (b9'0 && (r8 == 1))))]) ?_ ?_
      ·clear hs hb
       rintro ρ w27 ⟨b9'0, H10, he0, hs, hb, hH⟩
       subst he0
       refine wpL_has hH ?_
       clear hH
       refine q0 (vb (((((r4 == 0) && (aA == 7)) && (aB == 0)) && (r7 == 90)) && (r8 == 1))) (wpL_nil (th_n ?_))
       exact ⟨_, hs, hb, Has.mk (by kernel_rfl)⟩
      ·skip
       rcases Bool.eq_false_or_eq_true ((((r4 == 0) && (aA == 7)) && (aB == 0)) && (r7 == 90)) with hg16 | hg16
       ·skip
        refine q1 (vi r8) (want1 rfl (yD 84 hg16)) (q1 (vb (r8 == 1)) (want1 rfl (yD 84 hg16)) (q2 (vb (r8 == 1)) (xT hg16) (wpL_nil ?_)))
        exact ⟨true, _, hg16, hs, hb, Has.mk (by kernel_rfl)⟩
       ·skip
        refine sk (yD 84 hg16) (sk (yD 84 hg16) (q2 (vb false) (xF hg16) (wpL_nil ?_)))
        exact ⟨false, _, hg16, hs, hb, Has.mk (by kernel_rfl)⟩
     ·skip
      rcases Bool.eq_false_or_eq_true (((r4 == 0) && (aA == 7)) && (aB == 0)) with hg14 | hg14
      ·skip
       refine q1 (vi r7) (want1 rfl (yD 79 hg14)) ?_
       refine st_call (want1 rfl (yD 79 hg14)) (xc Try.call19) ((p_law09_num r7 w23).mono ?_)
       rintro e w26 ⟨he, hE⟩
       refine ⟨(vi r7), he.trans (by kernel_rfl), ?_⟩
       replace hs := hs.pure hE
       replace hb := hb.pure hE
       clear hE he
       refine q1 (vb (r7 == 90)) (want1 rfl (yD 79 hg14)) (q2 (vb (r7 == 90)) (xT hg14) (wpL_nil ?_))
       exact ⟨true, _, hg14, hs, hb, Has.mk (by kernel_rfl)⟩
      ·skip
       refine sk (yD 79 hg14) (sk (yD 79 hg14) (sk (yD 79 hg14) (q2 (vb false) (xF hg14) (wpL_nil ?_))))
       exact ⟨false, _, hg14, hs, hb, Has.mk (by kernel_rfl)⟩
    ·skip
     rcases Bool.eq_false_or_eq_true ((r4 == 0) && (aA == 7)) with hg12 | hg12
     ·skip
      refine q1 (vp (some (p5.add 1))) (want1 rfl (yD 74 hg12)) (stp (v := (vi aB)) (want1 rfl (yD 74 hg12)) (xl (Try.isAgg3 _) (hb.c 0 1 gZ)) (q1 (vb (aB == 0)) (want1 rfl (yD 74 hg12)) (q2 (vb (aB == 0)) (xT hg12) (wpL_nil ?_))))
      exact ⟨true, _, hg12, hs, hb, Has.mk (by kernel_rfl)⟩
     ·skip
      refine sk (yD 74 hg12) (sk (yD 74 hg12) (sk (yD 74 hg12) (q2 (vb false) (xF hg12) (wpL_nil ?_))))
      exact ⟨false, _, hg12, hs, hb, Has.mk (by kernel_rfl)⟩
   ·skip
    rcases Bool.eq_false_or_eq_true (r4 == 0) with hg10 | hg10
    ·skip
     refine q1 (vp (some p5)) (want1 rfl (yD 69 hg10)) (stp (v := (vi aA)) (want1 rfl (yD 69 hg10)) (xl (Try.isAgg3 _) (hb.c0 0 gZ)) (q1 (vb (aA == 7)) (want1 rfl (yD 69 hg10)) (q2 (vb (aA == 7)) (xT hg10) (wpL_nil ?_))))
     exact ⟨true, _, hg10, hs, hb, Has.mk (by kernel_rfl)⟩
    ·skip
     refine sk (yD 69 hg10) (sk (yD 69 hg10) (sk (yD 69 hg10) (q2 (vb false) (xF hg10) (wpL_nil ?_))))
     exact ⟨false, _, hg10, hs, hb, Has.mk (by kernel_rfl)⟩
  ·clear hs hb
   rintro ρ w20 ⟨H6, hs, hb, hH⟩
   refine norm_has hH ?_
   clear hH
   refine th_n (wpE_ret ?_)
   replace h := h H6 w20 hs
   replace hs := hs.here
   refine res1 (.inl rfl) Try.results14 (v := (vb (((((r4 == 0) && (aA == 7)) && (aB == 0)) && (r7 == 90)) && (r8 == 1)))) (by kernel_rfl) ?_
   exact ⟨(((((r4 == 0) && (aA == 7)) && (aB == 0)) && (r7 == 90)) && (r8 == 1)), rfl, h⟩
def m_law09_RecipeNil_j1 (r10 : Sl) (r11 x1 : Bool) (w0 : World) (H : Nat → Prop) (w : World) (K : Bool → World → Prop) : Prop :=
 Br ((x1 && (((r10.len : Int) : Int) == 0)) && (!r11))
  (∀ (H7 : Nat → Prop) (w17 : World), Hst w0 H w H7 w17 →
  Calls Try.prog 14 #[] w17 (fun e w18 => ∃ r12 : Bool, e = .returned (vb r12) ∧ 
   Kept H7 w17 w18 ∧
   K r12 w18))
  (∀ (H7 : Nat → Prop) (w17 : World), Hst w0 H w H7 w17 →
  K false w17)
def m_law09_RecipeNil (ops1 : Sl) (t1 : Int) (w0 : World) (K : Bool → World → Prop) : Prop :=
 Calls Try.prog 13 #[ops1.v] w0 (fun e w1 => ∃ r1 : Bool, e = .returned (vb r1) ∧ 
  Kept None w0 w1 ∧
  Br r1
   (Calls Try.prog 14 #[] w1 (fun e w2 => ∃ r2 : Bool, e = .returned (vb r2) ∧ 
    Kept None w1 w2 ∧
    K r2 w2))
   (Calls Try.prog 22 #[] w1 (fun e w3 => ∃ r3 : Option Addr, e = .returned (vp r3) ∧ 
    Kept None w1 w3 ∧
    Calls Try.prog 18 #[(vp none), (vp none), ops1.v] w3 (fun e w4 => ∃ r4 r5 r6 : Int, e = .returned (.tuple #[(vi r4), (vi r5), (vi r6)]) ∧ 
     Kept None w3 w4 ∧
     Calls Try.prog 18 #[(vp r3), (vp none), ops1.v] w4 (fun e w5 => ∃ r7 r8 r9 : Int, e = .returned (.tuple #[(vi r7), (vi r8), (vi r9)]) ∧ 
      Kept None w4 w5 ∧
      Calls Try.prog 38 #[(vp r3), (vp none), (vi t1)] w5 (fun e w6 => ∃ r10 : Sl, ∃ r11 : Bool, e = .returned (.tuple #[r10.v, (vb r11)]) ∧ 
       Kept None w5 w6 ∧
       ∀ y1 : Bool, y1 = (((((r4 == 0) && (r5 == 2)) && (r6 == 0)) && (r7 == 0)) && (r8 == 2)) →
       Br (y1 && (r9 == 0))
        (∀ (H5 : Nat → Prop) (w15 : World), Hst w0 None w6 H5 w15 →
        Calls Try.prog 16 #[(vp r3), (vp none), ops1.v] w15 (fun e w19 => ∃ r13 : Sl, e = .returned r13.v ∧ 
         Kept H5 w15 w19 ∧
         m_law09_RecipeNil_j1 r10 r11 (((r13.len : Int) : Int) == 0) w0 H5 w19 K))
        (∀ (H5 : Nat → Prop) (w15 : World), Hst w0 None w6 H5 w15 →
        m_law09_RecipeNil_j1 r10 r11 false w0 H5 w15 K)))))))
theorem w_law09_RecipeNil (ops1 : Sl) (t1 : Int) (w0 : World) (K : Bool → World → Prop) (h : m_law09_RecipeNil ops1 t1 w0 K) :
  Calls Try.prog 8 #[ops1.v, (vi t1)] w0 (fun e w' => ∃ r14 : Bool, e = .returned (vb r14) ∧ K r14 w') := by
 unfold m_law09_RecipeNil at h
 refine calls_of_wpE (args := [ops1.v, (vi t1)]) Try.func8 rfl Try.ntmps8 (Nat.le_of_ble_eq_true rfl) ?_
 have hs := Hst.start w0
 have hb := HB.nil None w0
 refine wpE_seq (rg (q0 (vb false) (wpL_nil (th_n (wpE_seq (wpE_seq (rg (q0 ops1.v ?_))))))))
 refine st_call (want0 rfl) (xc Try.call13) (h.mono ?_)
 rintro e w1 ⟨r1, rfl, hk, h⟩
 refine ⟨_, rfl, ?_⟩
 obtain ⟨hs, hb⟩ := hk.hh hs hb
 refine wpL_nil (th_n ?_)
 refine wpE_cond (t := r1) (by kernel_rfl) (fun hc1 => ?_) (fun hc1 => ?_)
 ·replace h := h.1 hc1
  refine wpE_seq (rg ?_)
  refine st_call (want0 rfl) (xc Try.call14) (h.mono ?_)
  rintro e w2 ⟨r2, rfl, hk, h⟩
  refine ⟨_, rfl, ?_⟩
  obtain ⟨hs, hb⟩ := hk.hh hs hb
  refine q0 (vb r2) (wpL_nil (th_n (wpE_ret (th_r (res1 (.inl rfl) Try.results8 (v := (vb r2)) (by kernel_rfl) ?_)))))
  exact ⟨r2, rfl, h⟩
 ·replace h := h.2 hc1
  refine wpE_skip (th_n (wpE_seq (rg ?_)))
  refine st_call (want0 rfl) (xc Try.call22) (h.mono ?_)
  rintro e w3 ⟨r3, rfl, hk, h⟩
  refine ⟨_, rfl, ?_⟩
  obtain ⟨hs, hb⟩ := hk.hh hs hb
  refine q0 (vp r3) (wpL_nil (th_n (wpE_seq (rg (q0 ops1.v ?_)))))
  refine st_call (want0 rfl) (xc Try.call18) (h.mono ?_)
  rintro e w4 ⟨r4, r5, r6, rfl, hk, h⟩
  refine ⟨_, rfl, ?_⟩
  obtain ⟨hs, hb⟩ := hk.hh hs hb
  refine q0 (.tuple #[(vi r4), (vi r5), (vi r6)]) (q0 (vi r4) (q0 (vi r5) (q0 (vi r6) (q0 (vi r4) (q0 (vi r5) (q0 (vi r6) (wpL_nil (th_n (wpE_seq (rg (q0 (vp r3) ?_)))))))))))
  refine q0 ops1.v ?_
  refine st_call (want0 rfl) (xc Try.call18) (h.mono ?_)
  rintro e w5 ⟨r7, r8, r9, rfl, hk, h⟩
  refine ⟨_, rfl, ?_⟩
  obtain ⟨hs, hb⟩ := hk.hh hs hb
  refine q0 (.tuple #[(vi r7), (vi r8), (vi r9)]) (q0 (vi r7) (q0 (vi r8) (q0 (vi r9) (q0 (vi r7) (q0 (vi r8) (q0 (vi r9) (wpL_nil (th_n (wpE_seq (rg (q0 (vp r3) ?_)))))))))))
  refine q0 (vi t1) ?_
  refine st_call (want0 rfl) (xc Try.call38) (h.mono ?_)
  rintro e w6 ⟨r10, r11, rfl, hk, h⟩
  refine ⟨_, rfl, ?_⟩
  obtain ⟨hs, hb⟩ := hk.hh hs hb
  refine q0 (.tuple #[r10.v, (vb r11)]) (q0 r10.v (q0 (vb r11) (q0 r10.v (q0 (vb r11) (wpL_nil (th_n (wpE_seq (rg (q0 (vi r4) (q0 (vb (r4 == 0)) (q0 (vb (r4 == 0)) ?_)))))))))))
  refine wpL_join 4 (fun ρ wJ => ∃ b1'0 : Bool, ∃ HJ : Nat → Prop, ((r4 == 0) = b1'0) ∧ Hst w0 None w6 HJ wJ ∧ HB HJ wJ [] ∧ Has ρ [(0, ops1.v), (5, (vp r3)), (8, (vi r6)), (9, (vi r7)), (10, (vi r8)), (11, (vi r9)), (12, r10.v), (13, (vb r11)), (43, (vb (b1'0 && (r5 == 2))))]) ?_ ?_
  ·clear hs hb
   rintro ρ w8 ⟨b1'0, H1, he0, hs, hb, hH⟩
   subst he0
   refine wpL_has hH ?_
   clear hH
   refine q0 (vb ((r4 == 0) && (r5 == 2))) ?_
   refine wpL_join 3 (fun ρ wJ => ∃ b2'0 : Bool, ∃ HJ : Nat → Prop, (((r4 == 0) && (r5 == 2)) = b2'0) ∧ Hst w0 None w6 HJ wJ ∧ HB HJ wJ [] ∧ Has ρ [(0, ops1.v), (5, (vp r3)), (9, (vi r7)), (10, (vi r8)), (11, (vi r9)), (12, r10.v), (13, (vb r11)), (47, (vb (b2'0 && (r6 == 0))))]) ?_ ?_
   ·clear hs hb
    rintro ρ w10 ⟨b2'0, H2, he0, hs, hb, hH⟩
    subst he0
    refine wpL_has hH ?_
    clear hH
    refine q0 (vb (((r4 == 0) && (r5 == 2)) && (r6 == 0))) ?_
    refine wpL_join 3 (fun ρ wJ => ∃ b3'0 : Bool, ∃ HJ : Nat → Prop, ((((r4 == 0) && (r5 == 2)) && (r6 == 0)) = b3'0) ∧ Hst w0 None w6 HJ wJ ∧ HB HJ wJ [] ∧ Has ρ [(0, ops1.v), (5, (vp r3)), (10, (vi r8)), (11, (vi r9)), (12, r10.v), (13, (vb r11)), (51, (vb (b3'0 && (r7 == 0))))]) ?_ ?_
    ·clear hs hb
     rintro ρ w11 ⟨b3'0, H3, he0, hs, hb, hH⟩
     subst he0
     refine wpL_has hH ?_
     clear hH
     refine q0 (vb ((((r4 == 0) && (r5 == 2)) && (r6 == 0)) && (r7 == 0))) ?_
     refine wpL_join 4 (fun ρ wJ => ∃ b4'0 y1 : Bool, ∃ HJ : Nat → Prop, (((((r4 == 0) && (r5 == 2)) && (r6 == 0)) && (r7 == 0)) = b4'0) ∧ (y1 = (b4'0 && (r8 == 2))) ∧ Hst w0 None w6 HJ wJ ∧ HB HJ wJ [] ∧ Has ρ [(0, ops1.v), (5, (vp r3)), (11, (vi r9)), (12, r10.v), (13, (vb r11)), (56, (vb y1))]) ?_ ?_
     ·clear hs hb
      rintro ρ w13 ⟨b4'0, y1, H4, he0, hy1, hs, hb, hH⟩
      subst he0
      replace h := h y1 hy1
      refine wpL_has hH ?_
      clear hH
      refine q0 (vb y1) ?_
      refine wpL_join 3 (fun ρ wJ => ∃ b5'0 : Bool, ∃ HJ : Nat → Prop, (y1 = b5'0) ∧ Hst w0 None w6 HJ wJ ∧ HB HJ wJ [] ∧ Has ρ [(0, ops1.v), (5, (vp r3)), (12, r10.v), (13, (vb r11)), (60, (vb (b5'0 && (r9 == 0))))]) ?_ ?_
      ·clear hs hb
       rintro ρ w15 ⟨b5'0, H5, he0, hs, hb, hH⟩
       subst he0
       refine wpL_has hH ?_
       clear hH
       refine q0 (vb (y1 && (r9 == 0))) ?_
       refine wpL_join 6 (fun ρ w => ∃ x1 : Bool, ∃ H : Nat → Prop, Has ρ [(12, r10.v), (13, (vb r11)), (67, (vb x1))] ∧ Hst w0 H w H w ∧ HB H w [] ∧ m_law09_RecipeNil_j1 r10 r11 x1 w0 H w K) ?_ ?_
       ·clear h hs hb
        rintro ρ w ⟨x1, H, hH, hs, hb, h⟩
        unfold m_law09_RecipeNil_j1 at h
        refine wpL_has hH ?_
        clear hH
        refine q0 (vb x1) ?_
        refine wpL_join 4 (fun ρ wJ => ∃ b6'0 : Bool, ∃ HJ : Nat → Prop, (x1 = b6'0) ∧ Hst w0 H w HJ wJ ∧ HB HJ wJ [] ∧ Has ρ [(13, (vb r11)), (72, (vb (b6'0 && (((r10.len : Int) : Int) == 0))))]) ?_ ?_
        ·clear hs hb
         rintro ρ w16 ⟨b6'0, H6, he0, hs, hb, hH⟩
         subst he0
         refine wpL_has hH ?_
         clear hH
         refine q0 (vb (x1 && (((r10.len : Int) : Int) == 0))) ?_
         refine wpL_join 3 (fun ρ wJ => ∃ b7'0 : Bool, ∃ HJ : Nat → Prop, ((x1 && (((r10.len : Int) : Int) == 0)) = b7'0) ∧ Hst w0 H w HJ wJ ∧ HB HJ wJ [] ∧ Has ρ [(76, (vb (b7'0 && (!r11))))]) ?_ ?_
         ·clear hs hb
          rintro ρ w17 ⟨b7'0, H7, he0, hs, hb, hH⟩
          subst he0
          refine wpL_has hH ?_
          clear hH
          refine q0 (vb ((x1 && (((r10.len : Int) : Int) == 0)) && (!r11))) ?_
          rcases Bool.eq_false_or_eq_true ((x1 && (((r10.len : Int) : Int) == 0)) && (!r11)) with hg15 | hg15
          ·replace h := h.1 hg15
           replace h := h H7 w17 hs
           replace hs := hs.here
           refine st_call (want1 rfl (yD 77 hg15)) (xc Try.call14) (h.mono ?_)
           rintro e w18 ⟨r12, rfl, hk, h⟩
           refine ⟨_, rfl, ?_⟩
           obtain ⟨hs, hb⟩ := hk.hh hs hb
           refine q2 (vb r12) (xT hg15) (q0 (vb r12) (wpL_nil (th_n (wpE_ret (res1 (.inl rfl) Try.results8 (v := (vb r12)) (by kernel_rfl) ?_)))))
           exact ⟨r12, rfl, h⟩
          ·replace h := h.2 hg15
           refine sk (yD 77 hg15) (q2 (vb false) (xF hg15) (q0 (vb false) (wpL_nil (th_n (wpE_ret ?_)))))
           replace h := h H7 w17 hs
           replace hs := hs.here
           refine res1 (.inl rfl) Try.results8 (v := (vb false)) (by kernel_rfl) ?_
           exact ⟨false, rfl, h⟩
         ·skip
          rcases Bool.eq_false_or_eq_true (x1 && (((r10.len : Int) : Int) == 0)) with hg14 | hg14
          ·skip
           refine q1 (vb r11) (want1 rfl (yD 73 hg14)) (q1 (vb (!r11)) (want1 rfl (yD 73 hg14)) (q2 (vb (!r11)) (xT hg14) (wpL_nil ?_)))
           exact ⟨true, _, hg14, hs, hb, Has.mk (by kernel_rfl)⟩
          ·skip
           refine sk (yD 73 hg14) (sk (yD 73 hg14) (q2 (vb false) (xF hg14) (wpL_nil ?_)))
           exact ⟨false, _, hg14, hs, hb, Has.mk (by kernel_rfl)⟩
        ·skip
         rcases Bool.eq_false_or_eq_true x1 with hg12 | hg12
         ·skip
          refine q1 r10.v (want1 rfl (yD 68 hg12)) (q1 (vi (r10.len : Int)) (want1 rfl (yD 68 hg12)) (q1 (vb (((r10.len : Int) : Int) == 0)) (want1 rfl (yD 68 hg12)) (q2 (vb (((r10.len : Int) : Int) == 0)) (xT hg12) (wpL_nil ?_))))
          exact ⟨true, _, hg12, hs, hb, Has.mk (by kernel_rfl)⟩
         ·skip
          refine sk (yD 68 hg12) (sk (yD 68 hg12) (sk (yD 68 hg12) (q2 (vb false) (xF hg12) (wpL_nil ?_))))
          exact ⟨false, _, hg12, hs, hb, Has.mk (by kernel_rfl)⟩
       ·skip
        rcases Bool.eq_false_or_eq_true (y1 && (r9 == 0)) with hg16 | hg16
        ·replace h := h.1 hg16
         refine q1 (vp r3) (want1 rfl (yD 61 hg16)) (q1 ops1.v (want1 rfl (yD 61 hg16)) ?_)
         replace h := h H5 w15 hs
         replace hs := hs.here
         refine st_call (want1 rfl (yD 61 hg16)) (xc Try.call16) (h.mono ?_)
         rintro e w19 ⟨r13, rfl, hk, h⟩
         refine ⟨_, rfl, ?_⟩
         obtain ⟨hs, hb⟩ := hk.hh hs hb
         refine q1 (vi (r13.len : Int)) (want1 rfl (yD 61 hg16)) (q1 (vb (((r13.len : Int) : Int) == 0)) (want1 rfl (yD 61 hg16)) (q2 (vb (((r13.len : Int) : Int) == 0)) (xT hg16) (wpL_nil ?_)))
         exact ⟨(((r13.len : Int) : Int) == 0), H5, Has.mk (by kernel_rfl), hs, hb, h⟩
        ·replace h := h.2 hg16
         refine sk (yD 61 hg16) (sk (yD 61 hg16) (sk (yD 61 hg16) (sk (yD 61 hg16) (sk (yD 61 hg16) (q2 (vb false) (xF hg16) (wpL_nil ?_))))))
         replace h := h H5 w15 hs
         replace hs := hs.here
         exact ⟨false, H5, Has.mk (by kernel_rfl), hs, hb, h⟩
      ·skip
       rcases Bool.eq_false_or_eq_true y1 with hg10 | hg10
       ·skip
        refine q1 (vi r9) (want1 rfl (yD 57 hg10)) (q1 (vb (r9 == 0)) (want1 rfl (yD 57 hg10)) (q2 (vb (r9 == 0)) (xT hg10) (wpL_nil ?_)))
        exact ⟨true, _, hg10, hs, hb, Has.mk (by kernel_rfl)⟩
       ·skip
        refine sk (yD 57 hg10) (sk (yD 57 hg10) (q2 (vb false) (xF hg10) (wpL_nil ?_)))
        exact ⟨false, _, hg10, hs, hb, Has.mk (by kernel_rfl)⟩
     ·skip
      rcases Bool.eq_false_or_eq_true ((((r4 == 0) && (r5 == 2)) && (r6 == 0)) && (r7 == 0)) with hg8 | hg8
      ·skip
       refine q1 (vi r8) (want1 rfl (yD 52 hg8)) ?_
       refine st_call (want1 rfl (yD 52 hg8)) (xc Try.call19) ((p_law09_num r8 w11).mono ?_)
       rintro e w14 ⟨he, hE⟩
       refine ⟨(vi r8), he.trans (by kernel_rfl), ?_⟩
       replace hs := hs.pure hE
       replace hb := hb.pure hE
       clear hE he
       refine q1 (vb (r8 == 2)) (want1 rfl (yD 52 hg8)) (q2 (vb (r8 == 2)) (xT hg8) (wpL_nil ?_))
       exact ⟨true, _, _, hg8, rfl, hs, hb, Has.mk (by kernel_rfl)⟩
      ·skip
       refine sk (yD 52 hg8) (sk (yD 52 hg8) (sk (yD 52 hg8) (q2 (vb false) (xF hg8) (wpL_nil ?_))))
       exact ⟨false, _, _, hg8, rfl, hs, hb, Has.mk (by kernel_rfl)⟩
    ·skip
     rcases Bool.eq_false_or_eq_true (((r4 == 0) && (r5 == 2)) && (r6 == 0)) with hg6 | hg6
     ·skip
      refine q1 (vi r7) (want1 rfl (yD 48 hg6)) (q1 (vb (r7 == 0)) (want1 rfl (yD 48 hg6)) (q2 (vb (r7 == 0)) (xT hg6) (wpL_nil ?_)))
      exact ⟨true, _, hg6, hs, hb, Has.mk (by kernel_rfl)⟩
     ·skip
      refine sk (yD 48 hg6) (sk (yD 48 hg6) (q2 (vb false) (xF hg6) (wpL_nil ?_)))
      exact ⟨false, _, hg6, hs, hb, Has.mk (by kernel_rfl)⟩
   ·skip
    rcases Bool.eq_false_or_eq_true ((r4 == 0) && (r5 == 2)) with hg4 | hg4
    ·skip
     refine q1 (vi r6) (want1 rfl (yD 44 hg4)) (q1 (vb (r6 == 0)) (want1 rfl (yD 44 hg4)) (q2 (vb (r6 == 0)) (xT hg4) (wpL_nil ?_)))
     exact ⟨true, _, hg4, hs, hb, Has.mk (by kernel_rfl)⟩
    ·skip
     refine sk (yD 44 hg4) (sk (yD 44 hg4) (q2 (vb false) (xF hg4) (wpL_nil ?_)))
     exact ⟨false, _, hg4, hs, hb, Has.mk (by kernel_rfl)⟩
  ·skip
   rcases Bool.eq_false_or_eq_true (r4 == 0) with hg2 | hg2
   ·skip
    refine q1 (vi r5) (want1 rfl (yD 39 hg2)) ?_
    refine st_call (want1 rfl (yD 39 hg2)) (xc Try.call19) ((p_law09_num r5 w6).mono ?_)
    rintro e w9 ⟨he, hE⟩
    refine ⟨(vi r5), he.trans (by kernel_rfl), ?_⟩
    replace hs := hs.pure hE
    replace hb := hb.pure hE
    clear hE he
    refine q1 (vb (r5 == 2)) (want1 rfl (yD 39 hg2)) (q2 (vb (r5 == 2)) (xT hg2) (wpL_nil ?_))
    exact ⟨true, _, hg2, hs, hb, Has.mk (by kernel_rfl)⟩
   ·skip
    refine sk (yD 39 hg2) (sk (yD 39 hg2) (sk (yD 39 hg2) (q2 (vb false) (xF hg2) (wpL_nil ?_))))
    exact ⟨false, _, hg2, hs, hb, Has.mk (by kernel_rfl)⟩
end Go.Proofs
end
section
open Go Go.SE
namespace Go.Sp
theorem KnowOk.nil (L : Pool) : KnowOk L [] [] := ⟨⟨by simp [wkeys], by simp [wkeys], fun i hi => by simp at hi⟩, by simp [wkeys], by simp, by simp⟩
end Go.Sp
end
section
open Go Go.SE
namespace Go.Proofs
attribute [local irreducible] Calls
theorem c_law09_long {S : Nat → Prop} (l : List Sp.Op) (s : Sl) (w0 : World) (hl : Lst S w0 5 s (l.map oprow)) :
  Calls Try.prog 13 #[s.v] w0 (fun e w' => ∃ r : Bool, e = .returned (.bool r) ∧ ((r = false → l.length ≤ 300) ∧ Pure w0 w')) := by
 refine w_law09_long _ w0 (fun r w' => (r = false → l.length ≤ 300) ∧ Pure w0 w') ?_
 unfold m_law09_long
 have hll : s.len = l.length := by rw [hl.len]; simp
 refine ⟨fun _ i w => (∃ j : Nat, i = j ∧ j ≤ 301) ∧ w = w0, fun _ i _ => ((301 : Int) - i).toNat, ⟨⟨0, rfl, by omega⟩, rfl⟩, ?_⟩
 rintro n _ _ ⟨⟨j, rfl, hj⟩, rfl⟩
 unfold m_law09_long_l1
 refine ⟨fun h => ?_, fun h => ⟨fun h => ?_, Ext.refl _⟩⟩
 ·rw [Bool.and_eq_true] at h
  have hlt := lt_of_dec hll h.1
  have h3 := of_decide_eq_true h.2
  obtain ⟨a, hat, _, hrow⟩ := hl.nth hlt
  refine ⟨a, hat, l[j].text, by simpa [oprow] using hrow 4 (by simp [oprow]), ⟨⟨j + 1, ?_, by omega⟩, rfl⟩, ?_⟩
  ·rw [IntWalk.i64_in _ (by omega)]; omega
  ·show (301 - IntKind.i64.wrap ((j : Int) + 1)).toNat < (301 - (j : Int)).toNat
   rw [IntWalk.i64_in _ (by omega)]; omega
 ·rw [Bool.or_eq_false_iff] at h
  have := of_decide_eq_false h.1
  omega
structure SideAt (w0 : World) (H : Nat → Prop) (w : World) (s p k q : Addr) (sg : Sl) (L1 L2 : Sp.Pool) (GK G : List Int) (S : List Sp.Way) (FP FK FR : Nat → Prop) : Prop where
 box : Box w s [.pointer (some p), .pointer (some k), .pointer (some q), sg.v] 36
 pool : PoolAt w p L1 FP
 know : KnowAt w k p GK S FK
 ref : PoolR w q L2 FR
 giv : Rws w 38 1 sg (tmr G)
 pure : Pure w0 w
 hs : Hst w0 H w H w
 oP : ∀ b, FP b → w0.heap.size ≤ b ∧ ¬ H b ∧ b ≠ s.block ∧ ¬ FK b ∧ ¬ FR b ∧ ¬ sg.blk b
 oK : ∀ b, FK b → w0.heap.size ≤ b ∧ ¬ H b ∧ b ≠ s.block ∧ ¬ FR b ∧ ¬ sg.blk b
 oR : ∀ b, FR b → w0.heap.size ≤ b ∧ ¬ H b ∧ b ≠ s.block ∧ ¬ sg.blk b
 oG : ∀ b, sg.blk b → w0.heap.size ≤ b ∧ ¬ H b ∧ b ≠ s.block
 oS : w0.heap.size ≤ s.block ∧ ¬ H s.block
section
variable {w0 w w' : World} {H H' : Nat → Prop} {s p k q : Addr} {sg : Sl} {L1 L2 L' : Sp.Pool} {GK G G' : List Int} {S S' : List Sp.Way} {FP FK FR F' : Nat → Prop}
theorem SideAt.pureE (h : SideAt w0 H w s p k q sg L1 L2 GK G S FP FK FR) (E : Pure w w') : SideAt w0 H w' s p k q sg L1 L2 GK G S FP FK FR :=
 ⟨h.box.pure E, h.pool.pure E, h.know.pure E, h.ref.pure E, h.giv.pure E, h.pure.trans E, h.hs.again E.keptP, h.oP, h.oK, h.oR, h.oG, h.oS⟩
theorem SideAt.hst (h : SideAt w0 H w s p k q sg L1 L2 GK G S FP FK FR) (hs : Hst w0 H w H' w') : SideAt w0 H' w' s p k q sg L1 L2 GK G S FP FK FR := by
 have xP := hs.disj (G := FP) (fun b hb => ⟨h.pool.lt hb, (h.oP b hb).2.1⟩)
 have xK := hs.disj (G := FK) (fun b hb => ⟨h.know.lt hb, (h.oK b hb).2.1⟩)
 have xR := hs.disj (G := FR) (fun b hb => ⟨h.ref.lt hb, (h.oR b hb).2.1⟩)
 have xG := hs.disj (G := sg.blk) (fun b hb => ⟨h.giv.lt hb, (h.oG b hb).2.1⟩)
 have xS := hs.disj (G := (· = s.block)) (fun b hb => by subst hb; exact ⟨h.box.lt, h.oS.2⟩) _ rfl
 exact ⟨h.box.ext hs.ext xS, h.pool.ext hs.ext xP, h.know.ext hs.ext xK, h.ref.ext hs.ext xR, h.giv.ext hs.ext xG, h.pure.hst hs, hs.here, fun b hb => ⟨(h.oP b hb).1, xP b hb, (h.oP b hb).2.2⟩, fun b hb => ⟨(h.oK b hb).1, xK b hb, (h.oK b hb).2.2⟩, fun b hb => ⟨(h.oR b hb).1, xR b hb, (h.oR b hb).2.2⟩, fun b hb => ⟨(h.oG b hb).1, xG b hb, (h.oG b hb).2.2⟩, ⟨h.oS.1, xS⟩⟩
theorem SideAt.prog (h : SideAt w0 H w s p k q sg L1 L2 GK G S FP FK FR) (hP : PoolAt w' p L' F') (E : Ext FP w w') (hF : ∀ b, F' b → FP b ∨ w.heap.size ≤ b) : Kept H w w' ∧ SideAt w0 H w' s p k q sg L' L2 GK G S F' FK FR := by
 have hk : Kept H w w' := E.kept (fun b hb hf => (h.oP b hf).2.1 hb)
 have z := h.pure.size
 have zb := h.box.lt
 refine ⟨hk, h.box.ext E (fun hf => (h.oP _ hf).2.2.1 rfl), hP, h.know.ext E (fun b hb hf => (h.oP b hf).2.2.2.1 hb), h.ref.ext E (fun b hb hf => (h.oP b hf).2.2.2.2.1 hb), h.giv.ext E (fun b hb hf => (h.oP b hf).2.2.2.2.2 hb), h.pure.trans' E (fun i hi hb => by have := (h.oP i hb).1; omega), h.hs.again hk, fun b hb => ?_, h.oK, h.oR, h.oG, h.oS⟩
 rcases hF b hb with h1 | h1
 ·exact h.oP b h1
 ·exact ⟨by omega, fun hh => by have := h.hs.lt b hh; omega, by omega, fun hh => by have := h.know.lt hh; omega, fun hh => by have := h.ref.lt hh; omega, fun hh => by have := h.giv.lt hh; omega⟩
theorem SideAt.doc (h : SideAt w0 H w s p k q sg L1 L2 GK G S FP FK FR) (hP : PoolR w' q L' F') (E : Ext FR w w') (hF : ∀ b, F' b → FR b ∨ w.heap.size ≤ b) : Kept H w w' ∧ SideAt w0 H w' s p k q sg L1 L' GK G S FP FK F' := by
 have hk : Kept H w w' := E.kept (fun b hb hf => (h.oR b hf).2.1 hb)
 have z := h.pure.size
 have zb := h.box.lt
 have nf : ∀ b, b < w.heap.size → ¬ FR b → ¬ F' b := fun b hb h1 h2 => (hF b h2).elim h1 (fun h3 => by omega)
 refine ⟨hk, h.box.ext E (fun hf => (h.oR _ hf).2.2.1 rfl), h.pool.ext E (fun b hb => (h.oP b hb).2.2.2.2.1), h.know.ext E (fun b hb => (h.oK b hb).2.2.2.1), hP, h.giv.ext E (fun b hb hf => (h.oR b hf).2.2.2 hb), h.pure.trans' E (fun i hi hb => by have := (h.oR i hb).1; omega), h.hs.again hk, fun b hb => ⟨(h.oP b hb).1, (h.oP b hb).2.1, (h.oP b hb).2.2.1, (h.oP b hb).2.2.2.1, nf b (h.pool.lt hb) (h.oP b hb).2.2.2.2.1, (h.oP b hb).2.2.2.2.2⟩, fun b hb => ⟨(h.oK b hb).1, (h.oK b hb).2.1, (h.oK b hb).2.2.1, nf b (h.know.lt hb) (h.oK b hb).2.2.2.1, (h.oK b hb).2.2.2.2⟩, fun b hb => ?_, h.oG, h.oS⟩
 rcases hF b hb with h1 | h1
 ·exact h.oR b h1
 ·exact ⟨by omega, fun hh => by have := h.hs.lt b hh; omega, by omega, fun hh => by have := h.giv.lt hh; omega⟩
theorem SideAt.add (h : SideAt w0 H w s p k q sg L1 L2 GK G S FP FK FR) (hK : KnowAt w' k p G' S' F') (E : Ext FK w w') (hF : ∀ b, F' b → FK b ∨ w.heap.size ≤ b) : Kept H w w' ∧ SideAt w0 H w' s p k q sg L1 L2 G' G S' FP F' FR := by
 have hk : Kept H w w' := E.kept (fun b hb hf => (h.oK b hf).2.1 hb)
 have z := h.pure.size
 have zb := h.box.lt
 refine ⟨hk, h.box.ext E (fun hf => (h.oK _ hf).2.2.1 rfl), h.pool.ext E (fun b hb => (h.oP b hb).2.2.2.1), hK, h.ref.ext E (fun b hb hf => (h.oK b hf).2.2.2.1 hb), h.giv.ext E (fun b hb hf => (h.oK b hf).2.2.2.2 hb), h.pure.trans' E (fun i hi hb => by have := (h.oK i hb).1; omega), h.hs.again hk, fun b hb => ⟨(h.oP b hb).1, (h.oP b hb).2.1, (h.oP b hb).2.2.1, fun hf => (hF b hf).elim (h.oP b hb).2.2.2.1 (fun hh => by have := h.pool.lt hb; omega), (h.oP b hb).2.2.2.2⟩, fun b hb => ?_, h.oR, h.oG, h.oS⟩
 rcases hF b hb with h1 | h1
 ·exact h.oK b h1
 ·exact ⟨by omega, fun hh => by have := h.hs.lt b hh; omega, by omega, fun hh => by have := h.ref.lt hh; omega, fun hh => by have := h.giv.lt hh; omega⟩
theorem SideAt.app (h : SideAt w0 H w s p k q sg L1 L2 GK G S FP FK FR) {t : Int} {a : Addr} {w1 : World} (hq : New w (.cells #[.int .i64 t] 38) a w1) (hn : G.length ≤ 1000000) : ∃ s1 w2, (Builtin.append_ #[30, 30] 30 #[sg.v, (Sl.mk (some a) 1 1).v]).run Try.prog w1 = .ok s1.v w2 ∧ Kept H w1 w2 ∧ CanW w2 (s.add 3) ∧
  SideAt w0 H (w2.setCell (s.add 3) s1.v) s p k q s1 L1 L2 GK (G ++ [t]) S FP FK FR := by
 have E1 : Pure w w1 := Ext.new hq
 obtain ⟨s1, w2, hr, hR, hE, hb⟩ := (h.giv.pure E1).append (P := Try.prog) (ty := 30) (c := 1) slT_tm (r := [.int .i64 t]) (Box.of_new hq).row rfl rfl (by rw [tmr_len]; omega) (by rw [tmr_len]; simp [maxLen]; omega)
 have hk : Kept H w1 w2 := hE.kept (fun b hb hs => (h.oG b hs).2.1 hb)
 have hbx := (h.box.pure E1).ext hE (fun hs => (h.oG _ hs).2.2 rfl)
 have z1 := E1.size
 have z2 := hE.size
 have z := h.pure.size
 have zb := h.box.lt
 have E3 := Ext.setCell (w := w2) (s.add 3) s1.v
 rw [add_block] at E3
 have hb' : ∀ b, s1.blk b → sg.blk b ∨ w.heap.size ≤ b := fun b h => (hb b h).imp_right (fun h => by omega)
 have nb : ∀ b, w.heap.size ≤ b → ¬ H b := fun b hb hh => by have := h.hs.lt b hh; omega
 refine ⟨s1, w2, hr, hk, hbx.canW (by simp), hbx.set 3 s1.v, ((h.pool.pure E1).ext hE (fun b hb => (h.oP b hb).2.2.2.2.2)).ext E3 (fun b hb => (h.oP b hb).2.2.1), ((h.know.pure E1).ext hE (fun b hb => (h.oK b hb).2.2.2.2)).ext E3 (fun b hb => (h.oK b hb).2.2.1), ((h.ref.pure E1).ext hE (fun b hb => (h.oR b hb).2.2.2)).ext E3 (fun b hb => (h.oR b hb).2.2.1), ?_, ?_, ((h.hs.again E1.keptP).again hk).again (E3.kept (fun b hb e => h.oS.2 (e ▸ hb))),
  fun b hb => ⟨(h.oP b hb).1, (h.oP b hb).2.1, (h.oP b hb).2.2.1, (h.oP b hb).2.2.2.1, (h.oP b hb).2.2.2.2.1, fun hh => (hb' b hh).elim (h.oP b hb).2.2.2.2.2 (fun h3 => by have := h.pool.lt hb; omega)⟩, fun b hb => ⟨(h.oK b hb).1, (h.oK b hb).2.1, (h.oK b hb).2.2.1, (h.oK b hb).2.2.2.1, fun hh => (hb' b hh).elim (h.oK b hb).2.2.2.2 (fun h3 => by have := h.know.lt hb; omega)⟩, fun b hb => ⟨(h.oR b hb).1, (h.oR b hb).2.1, (h.oR b hb).2.2.1, fun hh => (hb' b hh).elim (h.oR b hb).2.2.2 (fun h3 => by have := h.ref.lt hb; omega)⟩, fun b hb => ?_, h.oS⟩
 ·rw [show tmr (G ++ [t]) = tmr G ++ [[.int .i64 t]] by simp [tmr]]
  refine hR.ext E3 (fun b hb' e => ?_)
  rcases hb b hb' with h1 | h1
  ·exact (h.oG b h1).2.2 e
  ·omega
 ·exact ((h.pure.trans E1).trans' hE (fun i hi hs => by have := (h.oG i hs).1; omega)).trans' E3 (fun i hi e => by have := h.oS.1; omega)
 ·rcases hb' b hb with h1 | h1
  ·exact h.oG b h1
  ·exact ⟨by omega, nb b (by omega), by omega⟩
end
theorem c_law09_given {ST : Nat → Prop} (ts : List Sp.Tree) (sT : Sl) (w0 : World) (hT : TreeAt ST w0 sT (.mk 0 0 0 0 ⟨#[]⟩ ts)) (hS : ∀ b, ST b → b < w0.heap.size) (hn : ts.length ≤ 1000) (hc : Sp.cntAll ts ≤ 900000) :
  Calls Try.prog 15 #[sT.v] w0 (fun e w' => ∃ r1 : Option Addr, ∃ r2 : Bool, e = .returned (.tuple #[.pointer r1, .bool r2]) ∧ ∃ s p k q sg S FP FK FR, r1 = some s ∧ r2 = true ∧ SideAt w0 None w' s p k q sg (Sp.sideAll ts).1 (Sp.sideAll ts).1 (Sp.sideAll ts).2 (Sp.sideAll ts).2 S FP FK FR ∧ Sp.KnowOk (Sp.sideAll ts).1 (Sp.sideAll ts).2 S) := by
 suffices key : ∀ K : Option Addr → Bool → World → Prop, (∀ s p k q sg S FP FK FR H w', SideAt w0 H w' s p k q sg (Sp.sideAll ts).1 (Sp.sideAll ts).1 (Sp.sideAll ts).2 (Sp.sideAll ts).2 S FP FK FR → Sp.KnowOk (Sp.sideAll ts).1 (Sp.sideAll ts).2 S → K (some s) true w') → m_law09_given sT w0 K by
  refine (w_law09_given _ w0 (fun r1 r2 w' => ∃ s p k q sg S FP FK FR H, r1 = some s ∧ r2 = true ∧ SideAt w0 H w' s p k q sg (Sp.sideAll ts).1 (Sp.sideAll ts).1 (Sp.sideAll ts).2 (Sp.sideAll ts).2 S FP FK FR ∧ Sp.KnowOk (Sp.sideAll ts).1 (Sp.sideAll ts).2 S) (key _ (fun s p k q sg S FP FK FR H w' h hk => ⟨s, p, k, q, sg, S, FP, FK, FR, H, rfl, rfl, h, hk⟩))).mono ?_
  rintro _ w' ⟨r1, r2, rfl, s, p, k, q, sg, S, FP, FK, FR, H, rfl, rfl, h, hk⟩
  exact ⟨_, _, rfl, s, p, k, q, sg, S, FP, FK, FR, rfl, rfl, ⟨h.box, h.pool, h.know, h.ref, h.giv, h.pure, (Hst.start w0).again (h.pure.keptP), fun b hb => ⟨(h.oP b hb).1, id, (h.oP b hb).2.2⟩, fun b hb => ⟨(h.oK b hb).1, id, (h.oK b hb).2.2⟩, fun b hb => ⟨(h.oR b hb).1, id, (h.oR b hb).2.2⟩, fun b hb => ⟨(h.oG b hb).1, id, (h.oG b hb).2.2⟩, ⟨h.oS.1, id⟩⟩, hk⟩
 intro K hK
 have hnil : ∀ b, ¬ Sl.nil.blk b := fun b hb => by obtain ⟨a, h, _⟩ := hb; cases h
 cases hT with
 | mk _ _ _ _ _ _ _ rs len fit row kid =>
 unfold m_law09_given
 refine (c_New w0).mono ?_
 rintro _ w1 ⟨_, rfl, p, rfl, E1, FP, hP1, hFP⟩
 refine ⟨_, rfl, E1.keptP, ?_⟩
 refine (c_ref05_New w1).mono ?_
 rintro _ w2 ⟨_, rfl, q, FR, rfl, hR2, E2, hFR⟩
 refine ⟨_, rfl, E2.keptP, ?_⟩
 intro s w3 n3
 have E3 : Pure w2 w3 := Ext.new n3
 have B3 := Box.of_new n3
 refine ⟨some p, B3.cell0, ?_⟩
 refine (c_ded_New p w3).mono ?_
 rintro _ w4 ⟨_, rfl, k, FK, rfl, hK4, E4, hFK⟩
 have B4 := B3.pure E4
 refine ⟨_, rfl, E4.keptP, B4.canW (by simp), id, ?_⟩
 intro w5 hw5
 have X5 : Ext (· = s.block) w4 w5 := by rw [hw5, ← add_block s 1]; exact Ext.setCell (s.add 1) _
 have B5 : Box w5 s [.pointer (some p), .pointer (some k), .pointer (some q), Sl.nil.v] 36 := by rw [hw5]; exact B4.set 1 (.pointer (some k))
 clear hw5
 have z1 := E1.size
 have z2 := E2.size
 have z3 := E3.size
 have z4 := E4.size
 have zs := n3.at_size
 have zl := B3.lt
 have lP := fun b (hb : FP b) => hP1.lt hb
 have lR := fun b (hb : FR b) => hR2.lt hb
 have E04 : Pure w0 w4 := ((E1.trans E2).trans E3).trans E4
 have E05 : Pure w0 w5 := E04.own (by omega) X5
 have S0 : SideAt w0 None w5 s p k q Sl.nil [] [] [] [] [] FP FK FR :=
  ⟨B5, ((hP1.pure ((E2.trans E3).trans E4)).ext X5 (fun b hb e => by have := lP b hb; omega)), hK4.ext X5 (fun b hb e => by have := hFK b hb; omega), ((hR2.pure (E3.trans E4)).ext X5 (fun b hb e => by have := lR b hb; omega)), Rws.nil _ _ _, E05, (Hst.start w0).again E05.keptP,
   fun b hb => ⟨hFP b hb, id, by have := lP b hb; omega, fun h => by have := lP b hb; have := hFK b h; omega, fun h => by have := lP b hb; have := hFR b h; omega, hnil b⟩, fun b hb => ⟨by have := hFK b hb; omega, id, by have := hFK b hb; omega, fun h => by have := hFK b hb; have := lR b h; omega, hnil b⟩, fun b hb => ⟨by have := hFR b hb; omega, id, by have := lR b hb; omega, hnil b⟩, fun b hb => (hnil b hb).elim, ⟨by omega, id⟩⟩
 refine ⟨some p, B5.cell0, Br.f rfl ⟨some k, B5.cell rfl, ?_⟩⟩
 unfold m_law09_given_j1
 refine Br.f rfl ?_
 refine ⟨fun i H w => ∃ (j : Nat) (sg : Sl) (S : List Sp.Way) (FP FK FR : Nat → Prop), i = j ∧ j ≤ ts.length ∧ SideAt w0 H w s p k q sg (Sp.sideAll (ts.take j)).1 (Sp.sideAll (ts.take j)).1 (Sp.sideAll (ts.take j)).2 (Sp.sideAll (ts.take j)).2 S FP FK FR ∧ Sp.KnowOk (Sp.sideAll (ts.take j)).1 (Sp.sideAll (ts.take j)).2 S, fun i _ => ((ts.length : Int) - i).toNat, ⟨0, Sl.nil, [], FP, FK, FR, rfl, Nat.zero_le _, S0, Sp.KnowOk.nil _⟩, ?_⟩
 clear S0 B5 E05 E04 lP lR X5 B4 B3 hK4 hR2 hP1 hFK hFR hFP FP FK FR
 rintro _ H wl hl ⟨j, sg, S, FP, FK, FR, rfl, hj, hA, hk⟩
 unfold m_law09_given_l2
 refine ⟨fun h => ?_, fun h => ?_⟩
 ·have hlt := lt_of_dec len h
  have htk : ts.take (j + 1) = ts.take j ++ [ts[j]] := List.take_succ_eq_append_getElem hlt
  have hstep : Sp.sideAll (ts.take (j + 1)) = Sp.sideStep (Sp.sideAll (ts.take j)) ts[j] := by rw [htk, Sp.sideAll_snoc]
  have hW := Sp.sideAll_wf (ts.take j)
  have hgl := Sp.sideAll_len (ts.take j)
  rw [List.length_take, Nat.min_eq_left (by omega)] at hgl
  have hcx : Sp.cnt ts[j] ≤ 900000 := by
   have h1 : ∀ (ts : List Sp.Tree) (i : Nat) (hi : i < ts.length), Sp.cnt ts[i] ≤ Sp.cntAll ts := by
    intro ts
    induction ts with
    | nil => intro i hi; simp at hi
    | cons t ts ih =>
     intro i hi
     rw [Sp.cntAll]
     cases i with
     | zero => simp
     | succ i => have := ih i (by simpa using hi); simp; omega
   have := h1 ts j hlt; omega
  generalize Sp.sideAll (ts.take j) = Q at *
  obtain ⟨L, G⟩ := Q
  simp only at hA hk hW hgl
  obtain ⟨a, hat, hSa, hrow⟩ := row j hlt
  have hkid := kid j hlt
  generalize ts[j] = x at *
  generalize rs j = sx at *
  have hrowT : ∀ {w}, Pure w0 w → Row w a (trow x sx) := fun E => E.row hrow (fun h => h)
  obtain ⟨xk, xf, xt, xu, xx, xks⟩ := x
  have hAd := hA.pureE (Ext.drew wl)
  refine ⟨fun w => Box w s [.pointer (some p), .pointer (some k), .pointer (some q), sg.v] 36 ∧ Row w a (trow (.mk xk xf xt xu xx xks) sx), ⟨hAd.box, hrowT hAd.pure⟩, ?_⟩
  rintro _ rfl
  refine ⟨some p, fun _ h => h.1.cell0, a, hat, _, _, _, _, _, sx, fun _ h => h.2, ?_⟩
  refine (c_ref05_Lent (.mk xk xf xt xu xx xks) sx wl.drew (by omega) (hkid.pure hAd.pure) (fun b hb => by have := hS b hb; have := hAd.pure.size; omega)).mono ?_
  rintro _ w7 ⟨s', rfl, hT7, E7⟩
  have A7 := hAd.pureE E7
  refine ⟨_, _, _, _, _, s', rfl, ⟨A7.box, hrowT A7.pure⟩, E7.keptP, ?_⟩
  refine (c_Of (S := fun b => wl.drew.heap.size ≤ b ∧ b < w7.heap.size) p (.mk xk xf xt xu xx xks) s' w7 hT7.lt A7.pool hW.ok (fun b hb hh => by have := hAd.pool.lt hb; omega) (fun b hb => hb.2)).mono ?_
  rintro _ w8 ⟨r4, r5, rfl, h45, FP', hP8, X8, hF8⟩
  obtain ⟨k8, A8⟩ := A7.prog hP8 X8 hF8
  refine ⟨_, _, rfl, ⟨A8.box, hrowT A8.pure⟩, k8, ?_⟩
  have A9 := A8.pureE (Ext.drew w8)
  refine ⟨fun w => Box w s [.pointer (some p), .pointer (some k), .pointer (some q), sg.v] 36 ∧ Row w a (trow (.mk xk xf xt xu xx xks) sx), ⟨A9.box, hrowT A9.pure⟩, ?_⟩
  rintro _ rfl
  refine ⟨some q, fun _ h => h.1.cell rfl, a, hat, _, _, _, _, _, sx, fun _ h => h.2, ?_⟩
  refine (c_ref05_Of (S := ST) q (.mk xk xf xt xu xx xks) sx w8.drew (hkid.pure A9.pure) A9.ref hW.ok (fun b hb hh => by have := (A9.oR b hb).1; have := hS b hh; omega) (fun b hb => by have := hS b hb; have := A9.pure.size; omega)).mono ?_
  rintro _ w10 ⟨r6, r7, rfl, h67, FR', hR10, X10, hF10⟩
  obtain ⟨k10, A10⟩ := A9.doc hR10 X10 hF10
  refine ⟨_, _, rfl, ⟨A10.box, hrowT A10.pure⟩, k10, ?_⟩
  obtain ⟨M, hM⟩ := Sp.of_grows hW.ok (.mk xk xf xt xu xx xks)
  have hWx := Sp.of_wf hW (.mk xk xf xt xu xx xks)
  have htr := Sp.of_tree hW (x := .mk xk xf xt xu xx xks)
  rw [Sp.sideStep] at hstep
  simp only at hstep
  have hkM : Sp.KnowOk (Sp.of L (.mk xk xf xt xu xx xks)).2.2 G S := by rw [hM]; exact hk.app
  generalize Sp.of L (.mk xk xf xt xu xx xks) = R at *
  obtain ⟨t, er, L'⟩ := R
  simp only at h45 h67 hM hWx htr hstep hkM A10
  cases h45
  cases h67
  refine Br.f (by simp) ⟨fun h => ?_, fun h => ?_⟩
  ·intro H1 w12 hs12
   rw [if_pos (by simpa using h)] at hstep
   rw [wrap_succ hlt (by omega)]
   refine ⟨⟨j + 1, sg, S, FP', FK, FR', rfl, hlt, ?_, ?_⟩, lt_dec hlt⟩
   ·rw [hstep]; exact A10.hst hs12
   ·rw [hstep]; exact hkM
  ·intro H1 w12 hs12
   have her : r5 = 0 := by simpa using h
   rw [if_neg (by simpa using her)] at hstep
   have A12 := A10.hst hs12
   have hin := (htr her).1
   have hgT := Sp.giveT_in (G := G) hin
   refine ⟨fun there i H w => ∃ n : Nat, i = n ∧ n ≤ G.length ∧ there = decide (r4 ∈ G.take n) ∧ SideAt w0 H w s p k q sg L' L' G G S FP' FK FR', fun _ i _ => ((G.length : Int) - i).toNat, ⟨0, rfl, Nat.zero_le _, by simp, A12⟩, ?_⟩
   rintro there _ H2 w2 hs2 ⟨n, rfl, hnG, hth, B⟩
   unfold m_law09_given_l3
   have hsl : sg.len = G.length := by rw [B.giv.len, tmr_len]
   refine ⟨sg, B.box.cell rfl, fun h => ?_, fun h => ?_⟩
   ·have hltn := lt_of_dec hsl h
    have htk : G.take (n + 1) = G.take n ++ [G[n]] := List.take_succ_eq_append_getElem hltn
    refine ⟨fun h => ?_, fun h => ?_⟩
    ·unfold m_law09_given_j4
     rw [wrap_succ hltn (by omega)]
     refine ⟨⟨n + 1, rfl, hltn, ?_, B⟩, lt_dec hltn⟩
     rw [h] at hth
     rw [htk, eq_comm, decide_eq_true_eq]
     exact List.mem_append_left _ (by simpa using hth.symm)
    ·obtain ⟨ad, had, _, hcell⟩ := tm_nth B.giv.lst hltn
     refine ⟨sg, B.box.cell rfl, ad, had, _, hcell, ?_⟩
     unfold m_law09_given_j4
     rw [wrap_succ hltn (by omega)]
     refine ⟨⟨n + 1, rfl, hltn, ?_, B⟩, lt_dec hltn⟩
     rw [h] at hth
     have hnot : r4 ∉ G.take n := by simpa using hth.symm
     rw [htk, Bool.eq_iff_iff]
     simp only [beq_iff_eq, decide_eq_true_eq, List.mem_append, List.mem_singleton]
     exact ⟨fun e => .inr e.symm, fun e => e.elim (fun h => absurd h hnot) (fun h => h.symm)⟩
   ·have hge := eq_of_dec hsl hnG h
    subst hge
    rw [List.take_length] at hth
    have fin : ∀ {sg' : Sl} {w : World} {G' : List Int}, Sp.addT G r4 = G' → SideAt w0 H2 w s p k q sg' L' L' G G' S FP' FK FR' → ∃ v : Option Addr, w.cell? (s.add 1) = some (.pointer v) ∧ Calls Try.prog 56 #[.pointer v, .int .i64 r4] w (fun e w' => ∃ r : Int, e = .returned (.int .i64 r) ∧ Kept H2 w w' ∧ ((∃ (j' : Nat) (sg : Sl) (S : List Sp.Way) (FP FK FR : Nat → Prop), IntKind.i64.wrap ((j : Int) + 1) = j' ∧ j' ≤ ts.length ∧ SideAt w0 H2 w' s p k q sg (Sp.sideAll (ts.take j')).1 (Sp.sideAll (ts.take j')).1 (Sp.sideAll (ts.take j')).2 (Sp.sideAll (ts.take j')).2 S FP FK FR ∧ Sp.KnowOk (Sp.sideAll (ts.take j')).1 (Sp.sideAll (ts.take j')).2 S) ∧ ((ts.length : Int) - IntKind.i64.wrap ((j : Int) + 1)).toNat < ((ts.length : Int) - j).toNat)) := by
     intro sg' w G' hG C
     refine ⟨some k, C.box.cell rfl, ?_⟩
     refine (c_ded_Add k p r4 w C.know C.pool hWx (fun b hb hf => (C.oP b hf).2.2.2.1 hb) hkM).mono ?_
     rintro _ w' ⟨r, rfl, _, S', F', hK', ok', X', hF'⟩
     obtain ⟨kk, D⟩ := C.add hK' X' hF'
     rw [wrap_succ hlt (by omega)]
     rw [hgT] at D ok'
     refine ⟨r, rfl, kk, ⟨j + 1, sg', S', FP', F', FR', rfl, hlt, ?_, ?_⟩, lt_dec hlt⟩
     ·rw [hstep]; subst hG; exact D
     ·rw [hstep]; exact ok'
    refine ⟨fun h => ?_, fun h => ?_⟩
    ·have hnot : r4 ∉ G := by rw [hth] at h; simpa using h
     refine ⟨sg, B.box.cell rfl, ?_⟩
     intro p2 w14 n14
     obtain ⟨s1, w15, hr15, k15, cw, C⟩ := B.app n14 (by omega)
     refine ⟨s1, w15, hr15, k15, cw, by rw [add_block]; exact B.oS.2, ?_⟩
     rintro _ rfl
     exact fin (by unfold Sp.addT; rw [if_neg hnot]) C
    ·have hyes : r4 ∈ G := by rw [hth] at h; simpa using h
     exact fin (by unfold Sp.addT; rw [if_pos hyes]) B
 ·have hge := eq_of_dec len hj h
  subst hge
  rw [List.take_length] at hA hk
  exact hK _ _ _ _ _ _ _ _ _ _ _ hA hk
end Go.Proofs
end
section
open Go Go.SE
namespace Go.Proofs
attribute [local irreducible] Calls
def dishes (c c1 c2 : Addr) : List (Int × Value) :=
 [(0, .func (.func 138) #[] #[.pointer (some c1)]), (1, .func (.func 139) #[] #[.pointer (some c2)]), (2, .func (.func 140) #[] #[.pointer (some c2)]),
  (3, .func (.func 141) #[] #[.pointer (some c2)]), (4, .func (.func 143) #[] #[.pointer (some c1), .pointer (some c2)]), (5, .func (.func 145) #[] #[.pointer (some c1), .pointer (some c2)]),
  (6, .func (.func 146) #[] #[.pointer (some c1)]), (7, .func (.func 148) #[] #[.pointer (some c1)]), (8, .func (.func 149) #[.pointer (some c)] #[]),
  (9, .func (.func 150) #[] #[.pointer (some c1), .pointer (some c2)]), (10, .func (.func 152) #[] #[.pointer (some c1), .pointer (some c2)]), (11, .func (.func 155) #[] #[.pointer (some c1), .pointer (some c2)])]
section
variable {w0 : World} {c p c1 c2 : Addr} {sg sm : Sl} {G M : List Int} (hC : CookS w0 c p sg sm G M)
variable (h1 : w0.cell? c1 = some (.pointer (some c))) (h2 : w0.cell? c2 = some (.pointer (some p)))
variable {L : Sp.Pool} {F : Nat → Prop} (hP : PoolAt w0 p L F) (hok : Sp.Ok L)
abbrev DoK (p : Addr) (F : Nat → Prop) (w : World) (R : Sp.Res) (r1 r2 : Int) (w' : World) : Prop := (r1, r2) = (R.1, R.2.1) ∧ ∃ F', PoolAt w' p R.2.2 F' ∧ Ext F w w' ∧ ∀ b, F' b → F b ∨ w.heap.size ≤ b
theorem DoK.pre {p : Addr} {F : Nat → Prop} {w w1 w' : World} {R : Sp.Res} {r1 r2 : Int} (E : Pure w w1) (h : DoK p F w1 R r1 r2 w') : DoK p F w R r1 r2 w' := by
 obtain ⟨h1, F', h2, h3, h4⟩ := h
 exact ⟨h1, F', h2, E.pure.trans h3, fun b hb => (h4 b hb).imp_right (fun h => by have := E.size; omega)⟩
include hC h1 hP in
theorem c_dish0 (o : Sp.Op) : Calls Try.prog 138 #[opv o, .pointer (some c1)] w0 (DoPost p F w0 (Sp.knownOp L G o)) := by
 obtain ⟨co, oa, ob, on, ox⟩ := o
 refine w_recipe_cook_kitchen_1 co oa ob on ox _ w0 (DoK p F w0 (Sp.knownOp L G ⟨co, oa, ob, on, ox⟩)) ?_
 unfold m_recipe_cook_kitchen_1
 have hl : sg.len = G.length := by rw [hC.giv.len, tmr_len]
 have no : ∀ H w, Hst w0 None w0 H w → Sp.atM G oa = none → DoK p F w0 (Sp.knownOp L G ⟨co, oa, ob, on, ox⟩) 0 90 w := fun H w hs hn => by
  have e : Sp.knownOp L G ⟨co, oa, ob, on, ox⟩ = Sp.noOp L := by unfold Sp.knownOp; simp only; rw [hn]
  rw [e]
  exact ⟨rfl, F, hP.pure hs.first, hs.first.pure, fun b hb => .inl hb⟩
 refine ⟨fun h => fun H w hs => ?_, fun h => fun H w hs => ?_⟩
 ·unfold m_recipe_cook_kitchen_1_j1
  exact Br.t rfl (no H w hs (Sp.atM_out (.inl (of_decide_eq_true h))))
 ·have h := of_decide_eq_false h
  have C := hC.pure hs.first
  refine ⟨some c, (hs.first).cell h1 (fun h => h), c, rfl, sg, C.box.cell rfl, ?_⟩
  unfold m_recipe_cook_kitchen_1_j1
  refine ⟨fun h3 => no H w hs (Sp.atM_out (.inr (by have := of_decide_eq_true h3; omega))), fun h3 => ?_⟩
  have h3 := of_decide_eq_false h3
  intro w2 hs2
  have E2 := hs.first.hst hs2
  have C2 := hC.pure E2
  have e : Sp.atM G oa = some (G[oa.toNat]'(by omega)) := Sp.atM_in (by omega) (by omega)
  obtain ⟨a, ha, hc⟩ := tms_nth C2.giv e
  refine ⟨some c, E2.cell h1 (fun h => h), c, rfl, sg, C2.box.cell rfl, a, ha, _, hc, ?_⟩
  have e2 : Sp.knownOp L G ⟨co, oa, ob, on, ox⟩ = (G[oa.toNat]'(by omega), 0, L) := by unfold Sp.knownOp; simp only; rw [e]
  rw [e2]
  exact ⟨rfl, F, hP.pure E2, E2.pure, fun b hb => .inl hb⟩
include h2 hP hok in
theorem c_dish1 (o : Sp.Op) : Calls Try.prog 139 #[opv o, .pointer (some c2)] w0 (DoPost p F w0 (Sp.make L ⟨1, o.a, 0, 0, ⟨#[]⟩, 0, 0⟩)) := by
 obtain ⟨co, oa, ob, on, ox⟩ := o
 refine w_recipe_cook_kitchen_2 _ _ _ _ _ _ w0 (DoK p F w0 (Sp.make L ⟨1, oa, 0, 0, ⟨#[]⟩, 0, 0⟩)) ?_
 unfold m_recipe_cook_kitchen_2
 intro H1 w1 hs1
 refine ⟨some p, hs1.first.cell h2 (fun h => h), ?_⟩
 refine (c_Name p w1 (hP.pure hs1.first) hok oa).mono ?_
 rintro _ w2 ⟨r1, r2, rfl, h⟩
 exact ⟨r1, r2, rfl, h.2.elim (fun F' h => h.2.1.kept (fun b hb hx => by have := hs1.old b hb; have := hP.lt hx; omega)), DoK.pre hs1.first h⟩
include h2 hP hok in
theorem c_dish2 (o : Sp.Op) : Calls Try.prog 140 #[opv o, .pointer (some c2)] w0 (DoPost p F w0 (Sp.make L ⟨2, 0, 0, o.num, ⟨#[]⟩, 0, 0⟩)) := by
 obtain ⟨co, oa, ob, on, ox⟩ := o
 refine w_recipe_cook_kitchen_3 _ _ _ _ _ _ w0 (DoK p F w0 (Sp.make L ⟨2, 0, 0, on, ⟨#[]⟩, 0, 0⟩)) ?_
 unfold m_recipe_cook_kitchen_3
 intro H1 w1 hs1
 refine ⟨some p, hs1.first.cell h2 (fun h => h), ?_⟩
 refine (c_Num p w1 (hP.pure hs1.first) hok on).mono ?_
 rintro _ w2 ⟨r1, r2, rfl, h⟩
 exact ⟨r1, r2, rfl, h.2.elim (fun F' h => h.2.1.kept (fun b hb hx => by have := hs1.old b hb; have := hP.lt hx; omega)), DoK.pre hs1.first h⟩
include h2 hP hok in
theorem c_dish3 (o : Sp.Op) : Calls Try.prog 141 #[opv o, .pointer (some c2)] w0 (DoPost p F w0 (Sp.make L ⟨3, 0, 0, 0, o.text, 0, 0⟩)) := by
 obtain ⟨co, oa, ob, on, ox⟩ := o
 refine w_recipe_cook_kitchen_4 _ _ _ _ _ _ w0 (DoK p F w0 (Sp.make L ⟨3, 0, 0, 0, ox, 0, 0⟩)) ?_
 unfold m_recipe_cook_kitchen_4
 intro H1 w1 hs1
 refine ⟨some p, hs1.first.cell h2 (fun h => h), ?_⟩
 refine (c_Data p w1 (hP.pure hs1.first) hok ox).mono ?_
 rintro _ w2 ⟨r1, r2, rfl, h⟩
 exact ⟨r1, r2, rfl, h.2.elim (fun F' h => h.2.1.kept (fun b hb hx => by have := hs1.old b hb; have := hP.lt hx; omega)), DoK.pre hs1.first h⟩
include hC h1 h2 hP hok in
theorem c_dish4 (o : Sp.Op) : Calls Try.prog 143 #[opv o, .pointer (some c1), .pointer (some c2)] w0 (DoPost p F w0 (Sp.pairOp L M o)) := by
 obtain ⟨co, oa, ob, on, ox⟩ := o
 refine w_recipe_cook_kitchen_5 _ _ _ _ _ _ _ w0 (DoK p F w0 (Sp.pairOp L M ⟨co, oa, ob, on, ox⟩)) ?_
 unfold m_recipe_cook_kitchen_5
 intro H1 w1 hs1
 have E1 := hs1.first
 refine ⟨some c, E1.cell h1 (fun h => h), ?_⟩
 refine (c_cook_at (hC.pure E1) oa).mono ?_
 rintro _ w1 ⟨ra, oka, rfl, hra, rfl⟩
 refine ⟨_, _, rfl, Kept.refl _, some c, E1.cell h1 (fun h => h), ?_⟩
 refine (c_cook_at (hC.pure E1) ob).mono ?_
 rintro _ w1 ⟨rb, okb, rfl, hrb, rfl⟩
 refine ⟨_, _, rfl, Kept.refl _, ?_⟩
 unfold Sp.pairOp
 simp only
 have no : ∀ H w, Hst w0 H1 w1 H w → DoK p F w0 (Sp.noOp L) 0 90 w := fun H w hs => ⟨rfl, F, hP.pure (E1.hst hs), (E1.hst hs).pure, fun b hb => .inl hb⟩
 cases hta : Sp.atM M oa with
 | none =>
  rw [hta] at hra; obtain ⟨rfl, rfl⟩ := hra
  exact Br.t (by simp) (fun H w hs => no H w hs)
 | some a =>
  rw [hta] at hra; obtain ⟨rfl, rfl⟩ := hra
  simp only
  cases htb : Sp.atM M ob with
  | none =>
   rw [htb] at hrb; obtain ⟨rfl, rfl⟩ := hrb
   exact Br.t (by simp) (fun H w hs => no H w hs)
  | some b =>
   rw [htb] at hrb; obtain ⟨rfl, rfl⟩ := hrb
   simp only
   refine Br.f rfl (fun H w hs => ⟨some p, (E1.hst hs).cell h2 (fun h => h), ?_⟩)
   refine (c_Pair p w (hP.pure (E1.hst hs)) hok ra rb).mono ?_
   rintro _ w2 ⟨r1, r2, rfl, h⟩
   exact ⟨r1, r2, rfl, h.2.elim (fun F' h => h.2.1.kept (fun b hb hx => by have := hs.old b hb; have := hP.lt hx; omega)), DoK.pre (E1.hst hs) h⟩
include hC h1 h2 hP hok in
theorem c_dish5 (o : Sp.Op) : Calls Try.prog 145 #[opv o, .pointer (some c1), .pointer (some c2)] w0 (DoPost p F w0 (Sp.hashOp L M o)) := by
 obtain ⟨co, oa, ob, on, ox⟩ := o
 refine w_recipe_cook_kitchen_6 _ _ _ _ _ _ _ w0 (DoK p F w0 (Sp.hashOp L M ⟨co, oa, ob, on, ox⟩)) ?_
 unfold m_recipe_cook_kitchen_6
 intro H1 w1 hs1
 have E1 := hs1.first
 refine ⟨some c, E1.cell h1 (fun h => h), ?_⟩
 refine (c_cook_at (hC.pure E1) oa).mono ?_
 rintro _ w1 ⟨ra, oka, rfl, hra, rfl⟩
 refine ⟨_, _, rfl, Kept.refl _, ?_⟩
 unfold Sp.hashOp
 simp only
 cases hta : Sp.atM M oa with
 | none =>
  rw [hta] at hra; obtain ⟨rfl, rfl⟩ := hra
  exact Br.t rfl ⟨rfl, F, hP.pure E1, E1.pure, fun b hb => .inl hb⟩
 | some a =>
  rw [hta] at hra; obtain ⟨rfl, rfl⟩ := hra
  simp only
  refine Br.f rfl ⟨some p, E1.cell h2 (fun h => h), ?_⟩
  refine (c_Hash p _ (hP.pure E1) hok ra).mono ?_
  rintro _ w2 ⟨r1, r2, rfl, h⟩
  exact ⟨r1, r2, rfl, h.2.elim (fun F' h => h.2.1.kept (fun b hb hx => by have := hs1.old b hb; have := hP.lt hx; omega)), DoK.pre E1 h⟩
include hC h1 hP hok in
theorem c_dish6 (o : Sp.Op) : Calls Try.prog 146 #[opv o, .pointer (some c1)] w0 (DoPost p F w0 (Sp.partOp L M o false)) := by
 obtain ⟨co, oa, ob, on, ox⟩ := o
 refine w_recipe_cook_kitchen_7 _ _ _ _ _ _ w0 (DoK p F w0 (Sp.partOp L M ⟨co, oa, ob, on, ox⟩ false)) ?_
 unfold m_recipe_cook_kitchen_7
 intro H1 w1 hs1
 have E1 := hs1.first
 refine ⟨some c, E1.cell h1 (fun h => h), ?_⟩
 refine (c_cook_part (hC.pure E1) (hP.pure E1) hok ⟨co, oa, ob, on, ox⟩ false).mono ?_
 rintro _ w2 ⟨r1, r2, rfl, h⟩
 exact ⟨r1, r2, rfl, h.2.elim (fun F' h => h.2.1.kept (fun b hb hx => by have := hs1.old b hb; have := hP.lt hx; omega)), DoK.pre E1 h⟩
include hC h1 hP hok in
theorem c_dish7 (o : Sp.Op) : Calls Try.prog 148 #[opv o, .pointer (some c1)] w0 (DoPost p F w0 (Sp.partOp L M o true)) := by
 obtain ⟨co, oa, ob, on, ox⟩ := o
 refine w_recipe_cook_kitchen_8 _ _ _ _ _ _ w0 (DoK p F w0 (Sp.partOp L M ⟨co, oa, ob, on, ox⟩ true)) ?_
 unfold m_recipe_cook_kitchen_8
 intro H1 w1 hs1
 have E1 := hs1.first
 refine ⟨some c, E1.cell h1 (fun h => h), ?_⟩
 refine (c_cook_part (hC.pure E1) (hP.pure E1) hok ⟨co, oa, ob, on, ox⟩ true).mono ?_
 rintro _ w2 ⟨r1, r2, rfl, h⟩
 exact ⟨r1, r2, rfl, h.2.elim (fun F' h => h.2.1.kept (fun b hb hx => by have := hs1.old b hb; have := hP.lt hx; omega)), DoK.pre E1 h⟩
include hC h1 h2 hP hok in
theorem c_dish9 (o : Sp.Op) : Calls Try.prog 150 #[opv o, .pointer (some c1), .pointer (some c2)] w0 (DoPost p F w0 (Sp.keyedOp L M o (fun k a => ⟨7, k, 0, 0, ⟨#[]⟩, a, 0⟩))) := by
 obtain ⟨co, oa, ob, on, ox⟩ := o
 refine w_recipe_cook_kitchen_9 _ _ _ _ _ _ _ w0 (DoK p F w0 (Sp.keyedOp L M ⟨co, oa, ob, on, ox⟩ (fun k a => ⟨7, k, 0, 0, ⟨#[]⟩, a, 0⟩))) ?_
 unfold m_recipe_cook_kitchen_9
 intro H1 w1 hs1
 have E1 := hs1.first
 refine ⟨some c, E1.cell h1 (fun h => h), some p, E1.cell h2 (fun h => h), ?_⟩
 refine (c_cook_keyed (hC.pure E1) (hP.pure E1) hok ⟨co, oa, ob, on, ox⟩ 101 #[.pointer (some p)] #[] (fun k a => ⟨7, k, 0, 0, ⟨#[]⟩, a, 0⟩) Try.call101 (fun k a w' E' => ?_)).mono ?_
 ·exact c_Sign p w' ((hP.pure E1).pure E') hok k a
 rintro _ w2 ⟨r1, r2, rfl, h⟩
 exact ⟨r1, r2, rfl, h.2.elim (fun F' h => h.2.1.kept (fun b hb hx => by have := hs1.old b hb; have := hP.lt hx; omega)), DoK.pre E1 h⟩
variable (hd : ¬ F c2.block)
include hC h1 h2 hP hok hd in
theorem c_dish10 (o : Sp.Op) : Calls Try.prog 152 #[opv o, .pointer (some c1), .pointer (some c2)] w0 (DoPost p F w0 (Sp.keyedOp L M o (fun k a => ⟨8, k, Sp.nameOf o.num, 0, ⟨#[]⟩, a, 0⟩))) := by
 obtain ⟨co, oa, ob, on, ox⟩ := o
 refine w_recipe_cook_kitchen_10 co oa ob on ox _ _ w0 (DoK p F w0 (Sp.keyedOp L M ⟨co, oa, ob, on, ox⟩ (fun k a => ⟨8, k, Sp.nameOf on, 0, ⟨#[]⟩, a, 0⟩))) ?_
 unfold m_recipe_cook_kitchen_10
 intro p1 w1 hn1
 have E1 : Pure w0 w1 := Ext.new hn1
 have B1 := Box.of_new hn1
 refine ⟨some c, E1.cell h1 (fun h => h), _, _, _, _, _, B1.row, ?_⟩
 refine (c_cook_keyed (hC.pure E1) (hP.pure E1) hok ⟨co, oa, ob, on, ox⟩ 153 #[] #[.pointer (some c2), .pointer (some p1)] (fun k a => ⟨8, k, Sp.nameOf on, 0, ⟨#[]⟩, a, 0⟩) Try.call153 (fun k a w' E' => ?_)).mono ?_
 ·refine w_recipe_cook_kitchen_10_1 k a _ _ w' (DoK p F w' (Sp.make L ⟨8, k, Sp.nameOf on, 0, ⟨#[]⟩, a, 0⟩)) ?_
  unfold m_recipe_cook_kitchen_10_1
  have hcc : w'.cell? c2 = some (.pointer (some p)) := (E1.trans E').cell h2 (fun h => h)
  have hcp : w'.cell? (p1.add 3) = some (.int .u64 on) := (B1.pure E').cell rfl
  have hpf : ¬ F (p1.add 3).block := fun h => by rw [add_block] at h; have := hP.lt h; have := hn1.at_size; omega
  have Ed : Pure w' w'.drew := Ext.drew w'
  have keep : ∀ {X : Nat → Prop} {a b : World}, (a.cell? c2 = some (.pointer (some p)) ∧ a.cell? (p1.add 3) = some (.int .u64 on)) → Ext X a b → (∀ b, X b → F b) → b.cell? c2 = some (.pointer (some p)) ∧ b.cell? (p1.add 3) = some (.int .u64 on) := fun h E hx => ⟨E.cell h.1 (fun hh => hd (hx _ hh)), E.cell h.2 (fun hh => hpf (hx _ hh))⟩
  have C1 := keep ⟨hcc, hcp⟩ Ed (fun _ h => h.elim)
  refine ⟨fun w => w.cell? c2 = some (.pointer (some p)) ∧ w.cell? (p1.add 3) = some (.int .u64 on), C1, ?_⟩
  rintro _ rfl
  refine ⟨some p, fun _ h => h.1, on, fun _ h => h.2, ?_⟩
  refine (p_recipe_name on _).mono ?_
  rintro _ w2 ⟨rfl, E2⟩
  have C2 := keep C1 E2 (fun _ h => h.elim)
  refine ⟨_, rfl, C2, E2.keptP, ?_⟩
  refine (c_Prom p w2 (hP.pure (((E1.trans E').trans Ed).trans E2)) hok k (s_recipe_name on) a).mono ?_
  rintro _ w3 ⟨r1, r2, rfl, h⟩
  exact ⟨r1, r2, rfl, h.2.elim (fun F' h => keep C2 h.2.1 (fun _ h => h)), h.2.elim (fun F' h => h.2.1.kept (fun b hb hx => hb.elim)), DoK.pre (Ed.trans E2) h⟩
 rintro _ w2 ⟨r1, r2, rfl, h⟩
 exact ⟨r1, r2, rfl, DoK.pre E1 h⟩
include hC h1 h2 hP hok hd in
theorem c_dish11 (o : Sp.Op) : Calls Try.prog 155 #[opv o, .pointer (some c1), .pointer (some c2)] w0 (DoPost p F w0 (Sp.keyedOp L M o (fun k a => ⟨9, Sp.nameOf o.num, k, 0, ⟨#[]⟩, a, 0⟩))) := by
 obtain ⟨co, oa, ob, on, ox⟩ := o
 refine w_recipe_cook_kitchen_11 co oa ob on ox _ _ w0 (DoK p F w0 (Sp.keyedOp L M ⟨co, oa, ob, on, ox⟩ (fun k a => ⟨9, Sp.nameOf on, k, 0, ⟨#[]⟩, a, 0⟩))) ?_
 unfold m_recipe_cook_kitchen_11
 intro p1 w1 hn1
 have E1 : Pure w0 w1 := Ext.new hn1
 have B1 := Box.of_new hn1
 refine ⟨some c, E1.cell h1 (fun h => h), _, _, _, _, _, B1.row, ?_⟩
 refine (c_cook_keyed (hC.pure E1) (hP.pure E1) hok ⟨co, oa, ob, on, ox⟩ 156 #[] #[.pointer (some c2), .pointer (some p1)] (fun k a => ⟨9, Sp.nameOf on, k, 0, ⟨#[]⟩, a, 0⟩) Try.call156 (fun k a w' E' => ?_)).mono ?_
 ·refine w_recipe_cook_kitchen_11_1 k a _ _ w' (DoK p F w' (Sp.make L ⟨9, Sp.nameOf on, k, 0, ⟨#[]⟩, a, 0⟩)) ?_
  unfold m_recipe_cook_kitchen_11_1
  have hcc : w'.cell? c2 = some (.pointer (some p)) := (E1.trans E').cell h2 (fun h => h)
  have hcp : w'.cell? (p1.add 3) = some (.int .u64 on) := (B1.pure E').cell rfl
  have hpf : ¬ F (p1.add 3).block := fun h => by rw [add_block] at h; have := hP.lt h; have := hn1.at_size; omega
  have Ed : Pure w' w'.drew := Ext.drew w'
  have keep : ∀ {X : Nat → Prop} {a b : World}, (a.cell? c2 = some (.pointer (some p)) ∧ a.cell? (p1.add 3) = some (.int .u64 on)) → Ext X a b → (∀ b, X b → F b) → b.cell? c2 = some (.pointer (some p)) ∧ b.cell? (p1.add 3) = some (.int .u64 on) := fun h E hx => ⟨E.cell h.1 (fun hh => hd (hx _ hh)), E.cell h.2 (fun hh => hpf (hx _ hh))⟩
  have C1 := keep ⟨hcc, hcp⟩ Ed (fun _ h => h.elim)
  refine ⟨fun w => w.cell? c2 = some (.pointer (some p)) ∧ w.cell? (p1.add 3) = some (.int .u64 on), C1, ?_⟩
  rintro _ rfl
  refine ⟨some p, fun _ h => h.1, on, fun _ h => h.2, ?_⟩
  refine (p_recipe_name on _).mono ?_
  rintro _ w2 ⟨rfl, E2⟩
  have C2 := keep C1 E2 (fun _ h => h.elim)
  refine ⟨_, rfl, C2, E2.keptP, ?_⟩
  refine (c_Fake p w2 (hP.pure (((E1.trans E').trans Ed).trans E2)) hok (s_recipe_name on) k a).mono ?_
  rintro _ w3 ⟨r1, r2, rfl, h⟩
  exact ⟨r1, r2, rfl, h.2.elim (fun F' h => keep C2 h.2.1 (fun _ h => h)), h.2.elim (fun F' h => h.2.1.kept (fun b hb hx => hb.elim)), DoK.pre (Ed.trans E2) h⟩
 rintro _ w2 ⟨r1, r2, rfl, h⟩
 exact ⟨r1, r2, rfl, DoK.pre E1 h⟩
include hC h1 h2 hP hok hd in
theorem c_dish (o : Sp.Op) : (SE.look (dishes c c1 c2) o.code = none → Sp.doOp L G M o = Sp.noOp L) ∧
  ∀ v, SE.look (dishes c c1 c2) o.code = some v → ∃ (f : FuncId) (fs cs : Array Value), v = .func (.func f) fs cs ∧ (∀ args w, (callFunc f args).run Try.prog w = .ok (.enter f args) w) ∧ Calls Try.prog f (fs ++ #[opv o] ++ cs) w0 (DoPost p F w0 (Sp.doOp L G M o)) := by
 have d0 := c_dish0 hC h1 hP o
 have d1 := c_dish1 h2 hP hok o
 have d2 := c_dish2 h2 hP hok o
 have d3 := c_dish3 h2 hP hok o
 have d4 := c_dish4 hC h1 h2 hP hok o
 have d5 := c_dish5 hC h1 h2 hP hok o
 have d6 := c_dish6 hC h1 hP hok o
 have d7 := c_dish7 hC h1 hP hok o
 have d8 := c_cook_shown hC hP hok o
 have d9 := c_dish9 hC h1 h2 hP hok o
 have d10 := c_dish10 hC h1 h2 hP hok hd o
 have d11 := c_dish11 hC h1 h2 hP hok hd o
 generalize hk : o.code = k
 unfold Sp.doOp dishes
 rw [hk]
 have step : ∀ (n : Int) (u : Value) (M' : List (Int × Value)) (R R' : Sp.Res), (∃ (f : FuncId) (fs cs : Array Value), u = .func (.func f) fs cs ∧ (∀ args w, (callFunc f args).run Try.prog w = .ok (.enter f args) w) ∧ Calls Try.prog f (fs ++ #[opv o] ++ cs) w0 (DoPost p F w0 R)) →
   ((SE.look M' k = none → R' = Sp.noOp L) ∧ ∀ v, SE.look M' k = some v → ∃ (f : FuncId) (fs cs : Array Value), v = .func (.func f) fs cs ∧ (∀ args w, (callFunc f args).run Try.prog w = .ok (.enter f args) w) ∧ Calls Try.prog f (fs ++ #[opv o] ++ cs) w0 (DoPost p F w0 R')) →
   ((SE.look ((n, u) :: M') k = none → (if k = n then R else R') = Sp.noOp L) ∧ ∀ v, SE.look ((n, u) :: M') k = some v → ∃ (f : FuncId) (fs cs : Array Value), v = .func (.func f) fs cs ∧ (∀ args w, (callFunc f args).run Try.prog w = .ok (.enter f args) w) ∧ Calls Try.prog f (fs ++ #[opv o] ++ cs) w0 (DoPost p F w0 (if k = n then R else R'))) := by
  intro n u M' R R' h h'
  rw [SE.look]
  by_cases e : k = n
  ·rw [if_pos e.symm, if_pos e]
   exact ⟨fun h => (by cases h), fun v hv => by cases hv; exact h⟩
  ·rw [if_neg (fun e' => e e'.symm), if_neg e]
   exact h'
 refine step 0 _ _ _ _ ⟨_, _, _, rfl, Try.call138, d0⟩ ?_
 refine step 1 _ _ _ _ ⟨_, _, _, rfl, Try.call139, d1⟩ ?_
 refine step 2 _ _ _ _ ⟨_, _, _, rfl, Try.call140, d2⟩ ?_
 refine step 3 _ _ _ _ ⟨_, _, _, rfl, Try.call141, d3⟩ ?_
 refine step 4 _ _ _ _ ⟨_, _, _, rfl, Try.call143, d4⟩ ?_
 refine step 5 _ _ _ _ ⟨_, _, _, rfl, Try.call145, d5⟩ ?_
 refine step 6 _ _ _ _ ⟨_, _, _, rfl, Try.call146, d6⟩ ?_
 refine step 7 _ _ _ _ ⟨_, _, _, rfl, Try.call148, d7⟩ ?_
 refine step 8 _ _ _ _ ⟨_, _, _, rfl, Try.call149, d8⟩ ?_
 refine step 9 _ _ _ _ ⟨_, _, _, rfl, Try.call150, d9⟩ ?_
 refine step 10 _ _ _ _ ⟨_, _, _, rfl, Try.call152, d10⟩ ?_
 refine step 11 _ _ _ _ ⟨_, _, _, rfl, Try.call155, d11⟩ ?_
 exact ⟨fun _ => rfl, fun v hv => by cases hv⟩
end
theorem c_cook_kitchen {w0 : World} {c p : Addr} {sg sm : Sl} {G M : List Int} (hC : CookS w0 c p sg sm G M) : Calls Try.prog 114 #[.pointer (some c)] w0
  (fun e w' => ∃ r : Option Nat, e = .returned (.map r) ∧ ∃ m c1 c2, r = some m ∧ IMap id w' m (dishes c c1 c2) ∧ Box w' c1 [.pointer (some c)] 169 ∧ Box w' c2 [.pointer (some p)] 32 ∧ m ≠ c1.block ∧ m ≠ c2.block ∧ w0.heap.size ≤ m ∧ w0.heap.size ≤ c1.block ∧ w0.heap.size ≤ c2.block ∧ Pure w0 w') := by
 refine w_recipe_cook_kitchen _ w0 (fun r w' => ∃ m c1 c2, r = some m ∧ IMap id w' m (dishes c c1 c2) ∧ Box w' c1 [.pointer (some c)] 169 ∧ Box w' c2 [.pointer (some p)] 32 ∧ m ≠ c1.block ∧ m ≠ c2.block ∧ w0.heap.size ≤ m ∧ w0.heap.size ≤ c1.block ∧ w0.heap.size ≤ c2.block ∧ Pure w0 w') ?_
 unfold m_recipe_cook_kitchen
 intro p1 w1 n1
 have E1 : Pure w0 w1 := Ext.new n1
 have B1 := Box.of_new n1
 refine ⟨some c, B1.cell0, c, rfl, some p, (hC.pure E1).box.cell0, ?_⟩
 intro p2 w2 n2
 have E2 : Pure w1 w2 := Ext.new n2
 have B2 := Box.of_new n2
 refine ⟨B2.canW0 (by simp), ?_⟩
 intro w3 hw3
 have E3 : Ext (· = p2.block) w2 w3 := by rw [hw3]; exact Ext.setCell p2 _
 have B2' : Box w3 p2 [.pointer (some p)] 32 := by rw [hw3]; exact B2.set0
 clear hw3
 have z1 := n1.at_size
 have z2 := n2.at_size
 have s1 := E1.size
 have s2 := E2.size
 have s3 := E3.size
 have l1 := B1.lt
 have l2 := B2.lt
 have B1' := (B1.pure E2).ext E3 (show ¬ p1.block = p2.block by omega)
 have E03 : Pure w0 w3 := (E1.trans E2).own (by omega) E3
 intro p3 w4 n4
 have E4 : Pure w3 w4 := Ext.new n4
 have z4 := n4.at_size
 have M0 : IMap id w4 p3.block [] := IMap.of_new n4
 have put : ∀ {w : World} {M : List (Int × Value)} (k : Int) (v : Value), IMap id w p3.block M → SE.look M k = none → ∃ w', (Instr.mapUpdate 172 (.map (some p3.block)) (.int .i64 k) v).run Try.prog w = .ok () w' ∧ IMap id w' p3.block (M ++ [(k, v)]) ∧ Ext (· = p3.block) w w' := fun k v h hn => h.put (P := Try.prog) (T := 172) (K := 3) Try.underlying172 Try.underlying3 hn v
 obtain ⟨w5, r5, M5, X5⟩ := put 0 (.func (.func 138) #[] #[.pointer (some p1)]) M0 rfl
 refine ⟨w5, r5, ?_⟩
 obtain ⟨w6, r6, M6, X6⟩ := put 1 (.func (.func 139) #[] #[.pointer (some p2)]) M5 rfl
 refine ⟨w6, r6, ?_⟩
 obtain ⟨w7, r7, M7, X7⟩ := put 2 (.func (.func 140) #[] #[.pointer (some p2)]) M6 rfl
 refine ⟨w7, r7, ?_⟩
 obtain ⟨w8, r8, M8, X8⟩ := put 3 (.func (.func 141) #[] #[.pointer (some p2)]) M7 rfl
 refine ⟨w8, r8, ?_⟩
 obtain ⟨w9, r9, M9, X9⟩ := put 4 (.func (.func 143) #[] #[.pointer (some p1), .pointer (some p2)]) M8 rfl
 refine ⟨w9, r9, ?_⟩
 obtain ⟨w10, r10, M10, X10⟩ := put 5 (.func (.func 145) #[] #[.pointer (some p1), .pointer (some p2)]) M9 rfl
 refine ⟨w10, r10, ?_⟩
 obtain ⟨w11, r11, M11, X11⟩ := put 6 (.func (.func 146) #[] #[.pointer (some p1)]) M10 rfl
 refine ⟨w11, r11, ?_⟩
 obtain ⟨w12, r12, M12, X12⟩ := put 7 (.func (.func 148) #[] #[.pointer (some p1)]) M11 rfl
 have X4 : Ext (· = p3.block) w4 w12 := ((((((X5.trans X6).trans X7).trans X8).trans X9).trans X10).trans X11).trans X12
 have B12 := (B1'.pure E4).ext X4 (show ¬ p1.block = p3.block by omega)
 refine ⟨w12, r12, some c, B12.cell0, ?_⟩
 obtain ⟨w13, r13, M13, X13⟩ := put 8 (.func (.func 149) #[.pointer (some c)] #[]) M12 rfl
 refine ⟨w13, r13, ?_⟩
 obtain ⟨w14, r14, M14, X14⟩ := put 9 (.func (.func 150) #[] #[.pointer (some p1), .pointer (some p2)]) M13 rfl
 refine ⟨w14, r14, ?_⟩
 obtain ⟨w15, r15, M15, X15⟩ := put 10 (.func (.func 152) #[] #[.pointer (some p1), .pointer (some p2)]) M14 rfl
 refine ⟨w15, r15, ?_⟩
 obtain ⟨w16, r16, M16, X16⟩ := put 11 (.func (.func 155) #[] #[.pointer (some p1), .pointer (some p2)]) M15 rfl
 have X := ((X4.trans X13).trans X14).trans (X15.trans X16)
 refine ⟨w16, r16, p3.block, p1, p2, rfl, M16, (B1'.pure E4).ext X (show ¬ p1.block = p3.block by omega), (B2'.pure E4).ext X (show ¬ p2.block = p3.block by omega), by omega, by omega, by omega, by omega, by omega, (E03.trans E4).own (by omega) X⟩
end Go.Proofs
end
section
open Go Go.SE
namespace Go.Proofs
attribute [local irreducible] Calls
structure RunS (w0 : World) (H : Nat → Prop) (w : World) (c p c1 c2 : Addr) (m : Nat) (sg sm : Sl) (G M : List Int) (L : Sp.Pool) (F F1 : Nat → Prop) : Prop where
 ck : CookS w c p sg sm G M
 mp : IMap id w m (dishes c c1 c2)
 b1 : Box w c1 [.pointer (some c)] 169
 b2 : Box w c2 [.pointer (some p)] 32
 pool : PoolAt w p L F1
 fr : Ext F w0 w
 hs : Hst w0 H w H w
 oP : ∀ b, F1 b → (F b ∨ w0.heap.size ≤ b) ∧ ¬ H b
 oc : w0.heap.size ≤ c.block ∧ ¬ H c.block ∧ ¬ F1 c.block
 o1 : w0.heap.size ≤ c1.block ∧ ¬ H c1.block ∧ ¬ F1 c1.block ∧ c1.block ≠ c.block
 o2 : w0.heap.size ≤ c2.block ∧ ¬ H c2.block ∧ ¬ F1 c2.block ∧ c2.block ≠ c.block
 om : w0.heap.size ≤ m ∧ ¬ H m ∧ ¬ F1 m ∧ m ≠ c.block
 og : ∀ b, sg.blk b → w0.heap.size ≤ b ∧ ¬ H b ∧ ¬ F1 b ∧ b ≠ c.block
 os : ∀ b, sm.blk b → w0.heap.size ≤ b ∧ ¬ H b ∧ ¬ F1 b ∧ b ≠ c.block ∧ b ≠ c1.block ∧ b ≠ c2.block ∧ b ≠ m ∧ ¬ sg.blk b
section
variable {w0 w w' : World} {H H' : Nat → Prop} {c p c1 c2 : Addr} {m : Nat} {sg sm : Sl} {G M : List Int} {L L' : Sp.Pool} {F F1 F2 : Nat → Prop}
theorem RunS.hst (h : RunS w0 H w c p c1 c2 m sg sm G M L F F1) (hs : Hst w0 H w H' w') : RunS w0 H' w' c p c1 c2 m sg sm G M L F F1 := by
 have xc := hs.disj (G := fun b => CookF c sg sm b) (fun b hb => ⟨h.ck.lt hb, by rcases hb with rfl | hb | hb; exact h.oc.2.1; exact (h.og b hb).2.1; exact (h.os b hb).2.1⟩)
 have xP := hs.disj (G := F1) (fun b hb => ⟨h.pool.lt hb, (h.oP b hb).2⟩)
 have x1 := hs.disj (G := (· = c1.block)) (fun b hb => by subst hb; exact ⟨h.b1.lt, h.o1.2.1⟩) _ rfl
 have x2 := hs.disj (G := (· = c2.block)) (fun b hb => by subst hb; exact ⟨h.b2.lt, h.o2.2.1⟩) _ rfl
 have xm := hs.disj (G := (· = m)) (fun b hb => by subst hb; exact ⟨h.mp.lt, h.om.2.1⟩) _ rfl
 exact ⟨h.ck.ext hs.ext xc, h.mp.ext hs.ext xm, h.b1.ext hs.ext x1, h.b2.ext hs.ext x2, h.pool.ext hs.ext xP, h.fr.hst hs, hs.here, fun b hb => ⟨(h.oP b hb).1, xP b hb⟩, ⟨h.oc.1, xc _ (.inl rfl), h.oc.2.2⟩, ⟨h.o1.1, x1, h.o1.2.2⟩, ⟨h.o2.1, x2, h.o2.2.2⟩, ⟨h.om.1, xm, h.om.2.2⟩,
  fun b hb => ⟨(h.og b hb).1, xc b (.inr (.inl hb)), (h.og b hb).2.2⟩, fun b hb => ⟨(h.os b hb).1, xc b (.inr (.inr hb)), (h.os b hb).2.2⟩⟩
theorem RunS.make (h : RunS w0 H w c p c1 c2 m sg sm G M L F F1) (hP : PoolAt w' p L' F2) (E : Ext F1 w w') (hF : ∀ b, F2 b → F1 b ∨ w.heap.size ≤ b) : Kept H w w' ∧ RunS w0 H w' c p c1 c2 m sg sm G M L' F F2 := by
 have hk : Kept H w w' := E.kept (fun b hb hf => (h.oP b hf).2 hb)
 have z : w0.heap.size ≤ w.heap.size := h.fr.size
 have nf : ∀ b, b < w.heap.size → ¬ F1 b → ¬ F2 b := fun b hb h1 h2 => (hF b h2).elim h1 (fun h3 => by omega)
 refine ⟨hk, h.ck.ext E (fun b hb => by rcases hb with rfl | hb | hb; exact h.oc.2.2; exact (h.og b hb).2.2.1; exact (h.os b hb).2.2.1), h.mp.ext E h.om.2.2.1, h.b1.ext E h.o1.2.2.1, h.b2.ext E h.o2.2.2.1, hP, ?_, h.hs.again hk, fun b hb => ?_, ⟨h.oc.1, h.oc.2.1, nf _ h.ck.box.lt h.oc.2.2⟩, ⟨h.o1.1, h.o1.2.1, nf _ h.b1.lt h.o1.2.2.1, h.o1.2.2.2⟩, ⟨h.o2.1, h.o2.2.1, nf _ h.b2.lt h.o2.2.2.1, h.o2.2.2.2⟩, ⟨h.om.1, h.om.2.1, nf _ h.mp.lt h.om.2.2.1, h.om.2.2.2⟩,
  fun b hb => ⟨(h.og b hb).1, (h.og b hb).2.1, nf _ (h.ck.giv.lt hb) (h.og b hb).2.2.1, (h.og b hb).2.2.2⟩, fun b hb => ⟨(h.os b hb).1, (h.os b hb).2.1, nf _ (h.ck.made.lt hb) (h.os b hb).2.2.1, (h.os b hb).2.2.2⟩⟩
 ·exact h.fr.trans' E (fun i hi hb => (h.oP i hb).1.elim id (fun h => by omega))
 ·rcases hF b hb with h1 | h1
  ·exact h.oP b h1
  ·exact ⟨.inr (by omega), fun hh => by have := h.hs.lt b hh; omega⟩
theorem RunS.app (h : RunS w0 H w c p c1 c2 m sg sm G M L F F1) {t : Int} {q : Addr} {w1 : World} (hq : New w (.cells #[.int .i64 t] 38) q w1) (hn : M.length ≤ 1000000) : ∃ s1 w2, (Builtin.append_ #[30, 30] 30 #[sm.v, (Sl.mk (some q) 1 1).v]).run Try.prog w1 = .ok s1.v w2 ∧ Kept H w1 w2 ∧ CanW w2 (c.add 2) ∧
  RunS w0 H (w2.setCell (c.add 2) s1.v) c p c1 c2 m sg s1 G (M ++ [t]) L F F1 := by
 have E1 : Pure w w1 := Ext.new hq
 obtain ⟨s1, w2, hr, hR, hE, hb⟩ := (h.ck.made.pure E1).append (P := Try.prog) (ty := 30) (c := 1) slT_tm (r := [.int .i64 t]) (Box.of_new hq).row rfl rfl (by rw [tmr_len]; omega) (by rw [tmr_len]; simp [maxLen]; omega)
 have hk : Kept H w1 w2 := hE.kept (fun b hb hs => (h.os b hs).2.1 hb)
 have hbx := (h.ck.box.pure E1).ext hE (fun hs => (h.os _ hs).2.2.2.1 rfl)
 have z1 := E1.size
 have z2 := hE.size
 have z : w0.heap.size ≤ w.heap.size := h.fr.size
 have E3 := Ext.setCell (w := w2) (c.add 2) s1.v
 rw [add_block] at E3
 have hs1 : ∀ b, s1.blk b → w0.heap.size ≤ b ∧ ¬ H b ∧ ¬ F1 b ∧ b ≠ c.block ∧ b ≠ c1.block ∧ b ≠ c2.block ∧ b ≠ m ∧ ¬ sg.blk b := fun b hb' => by
  rcases hb b hb' with h1 | h1
  ·exact h.os b h1
  ·have a0 := h.ck.box.lt; have a1 := h.b1.lt; have a2 := h.b2.lt; have a3 := h.mp.lt
   exact ⟨by omega, fun hh => by have := h.hs.lt b hh; omega, fun hh => by have := h.pool.lt hh; omega, by omega, by omega, by omega, by omega, fun hh => by have := h.ck.giv.lt hh; omega⟩
 refine ⟨s1, w2, hr, hk, hbx.canW (by simp), ⟨hbx.set 2 s1.v, ((h.ck.giv.pure E1).ext hE (fun b hb hs => (h.os b hs).2.2.2.2.2.2.2 hb)).ext E3 (fun b hb e => (h.og b hb).2.2.2 e), ?_⟩, ((h.mp.pure E1).ext hE (fun hs => (h.os _ hs).2.2.2.2.2.2.1 rfl)).ext E3 h.om.2.2.2, ((h.b1.pure E1).ext hE (fun hs => (h.os _ hs).2.2.2.2.1 rfl)).ext E3 h.o1.2.2.2, ((h.b2.pure E1).ext hE (fun hs => (h.os _ hs).2.2.2.2.2.1 rfl)).ext E3 h.o2.2.2.2,
  ((h.pool.pure E1).ext hE (fun b hb hs => (h.os b hs).2.2.1 hb)).ext E3 (fun b hb e => h.oc.2.2 (e ▸ hb)), ?_, (h.hs.again (E1.keptP)).again hk |>.again (E3.kept (fun b hb e => h.oc.2.1 (e ▸ hb))), h.oP, h.oc, h.o1, h.o2, h.om, h.og, hs1⟩
 ·rw [show tmr (M ++ [t]) = tmr M ++ [[.int .i64 t]] by simp [tmr]]
  exact hR.ext E3 (fun b hb e => (hs1 b hb).2.2.2.1 e)
 ·exact ((h.fr.thenPure E1).trans' hE (fun i hi hs => by have := (h.os i hs).1; omega)).trans' E3 (fun i hi e => by have := h.oc.1; omega)
end
structure RanK (w0 : World) (p : Addr) (F : Nat → Prop) (R : List Int × Int × Sp.Pool) (s : Sl) (r2 : Int) (w' : World) : Prop where
 err : r2 = R.2.1
 pool : ∃ F', PoolAt w' p R.2.2 F' ∧ (∀ b, F' b → F b ∨ w0.heap.size ≤ b) ∧ ∀ b, s.blk b → ¬ F' b
 rows : Rws w' 38 1 s (tmr R.1)
 own : ∀ b, s.blk b → w0.heap.size ≤ b
 fr : Ext F w0 w'
theorem RunS.done {w0 w : World} {H : Nat → Prop} {c p c1 c2 : Addr} {m : Nat} {sg sm : Sl} {G M : List Int} {L : Sp.Pool} {F F1 : Nat → Prop} (h : RunS w0 H w c p c1 c2 m sg sm G M L F F1) {R : List Int × Int × Sp.Pool} {e : Int} (hR : R = (M, e, L)) : RanK w0 p F R sm e w := by
 subst hR
 exact ⟨rfl, ⟨F1, h.pool, fun b hb => (h.oP b hb).1, fun b hb => (h.os b hb).2.2.1⟩, h.ck.made, fun b hb => (h.os b hb).1, h.fr⟩
theorem c_recipe_run {Sl0 : Nat → Prop} (p k : Addr) (sl : Sl) (l : List Sp.Op) (w0 : World) {L : Sp.Pool} {G : List Int} {S : List Sp.Way} {F FK : Nat → Prop} (hW : Sp.Wf L) (hP : PoolAt w0 p L F) (hK : KnowAt w0 k p G S FK) (hl : Lst Sl0 w0 5 sl (l.map oprow)) (hS0 : ∀ b, Sl0 b → b < w0.heap.size ∧ ¬ F b) (hG : G.length ≤ 1000000) (hn : l.length ≤ 1000) :
  Calls Try.prog 66 #[.pointer (some p), .pointer (some k), sl.v] w0 (fun e w' => ∃ s : Sl, ∃ r2 : Int, e = .returned (.tuple #[s.v, .int .i64 r2]) ∧ RanK w0 p F (Sp.runOps L G [] l) s r2 w') := by
 refine w_recipe_run _ _ _ w0 (fun s r2 w' => RanK w0 p F (Sp.runOps L G [] l) s r2 w') ?_
 unfold m_recipe_run
 refine (c_ded_Given k p w0 hK hG).mono ?_
 rintro _ w1 ⟨sg, rfl, hg⟩
 refine ⟨sg, rfl, hg.kept, ?_⟩
 intro c w2 n2
 have E2 : Pure w1 w2 := Ext.new n2
 have B2 := Box.of_new n2
 have hnil : ∀ b, ¬ Sl.nil.blk b := fun b hb => by obtain ⟨a, h, _⟩ := hb; cases h
 have C2 : CookS w2 c p sg Sl.nil G [] := ⟨B2, hg.rows.pure E2, Rws.nil _ _ _⟩
 refine (c_cook_kitchen C2).mono ?_
 rintro _ w3 ⟨_, rfl, m, c1, c2, rfl, hM, hb1, hb2, hm1, hm2, z1, z2, z3, E3⟩
 refine ⟨_, rfl, E3.keptP, ?_⟩
 have E03 : Pure w0 w3 := (hg.pure.trans E2).trans E3
 have q0 := hg.pure.size
 have q1 := n2.at_size
 have q2 := E2.size
 have q3 := E3.size
 have q4 := B2.lt
 have R3 : RunS w0 None w3 c p c1 c2 m sg Sl.nil G [] L F F := by
  refine ⟨C2.pure E3, hM, hb1, hb2, hP.pure E03, E03.pure, (Hst.start w0).again E03.keptP, fun b hb => ⟨.inl hb, fun h => h⟩, ⟨by omega, fun h => h, fun h => by have := hP.lt h; omega⟩, ⟨by omega, fun h => h, fun h => by have := hP.lt h; omega, by omega⟩, ⟨by omega, fun h => h, fun h => by have := hP.lt h; omega, by omega⟩, ⟨by omega, fun h => h, fun h => by have := hP.lt h; omega, by omega⟩, fun b hb => ⟨hg.own b hb, fun h => h, fun h => by have := hP.lt h; have := hg.own b hb; omega, ?_⟩, fun b hb => (hnil b hb).elim⟩
  have := hg.rows.lt hb; omega
 refine ⟨fun x H w => ∃ (j : Nat) (M : List Int) (L1 : Sp.Pool) (sm : Sl) (F1 : Nat → Prop), x = j ∧ j ≤ l.length ∧ M.length = j ∧ Sp.Wf L1 ∧ Sp.runOps L G [] l = Sp.runOps L1 G M (l.drop j) ∧ RunS w0 H w c p c1 c2 m sg sm G M L1 F F1, fun x _ => ((l.length : Int) - x).toNat, ⟨0, [], L, Sl.nil, F, rfl, Nat.zero_le _, rfl, hW, rfl, R3⟩, ?_⟩
 rintro _ H w _ ⟨j, M, L1, sm, F1, rfl, hj, hMj, hW1, hrun, R⟩
 unfold m_recipe_run_l1
 have hll : sl.len = l.length := by rw [hl.len]; simp
 refine ⟨fun h => ?_, fun h => ?_⟩
 ·have hlt := lt_of_dec hll h
  obtain ⟨a, hat, hSa, hrow⟩ := hl.nth hlt
  have hrow' : Row w a (oprow l[j]) := R.fr.row hrow (hS0 _ hSa).2
  refine ⟨a, hat, l[j].code, l[j].a, l[j].b, l[j].num, l[j].text, hrow', ?_⟩
  intro H1 w5 hs5
  have R5 := R.hst hs5
  rw [Sp.runOps_step hlt] at hrun
  have hok1 := hW1.ok
  have dish := c_dish R5.ck R5.b1.cell0 R5.b2.cell0 R5.pool hok1 R5.o2.2.2.1 l[j]
  generalize l[j] = o at *
  rcases R5.mp.get (P := Try.prog) (T := 172) Try.underlying172 Try.underlying3 (Try.zeroValue175 _) o.code true with ⟨g1, g2⟩ | ⟨v, g1, g2⟩
  ·refine ⟨_, _, g2, Br.t rfl ⟨sm, R5.ck.box.cell rfl, ?_⟩⟩
   rw [dish.1 g1] at hrun
   exact R5.done hrun
  ·obtain ⟨f1, fs, cs, rfl, hf, hc⟩ := dish.2 v g1
   refine ⟨_, _, g2, Br.f rfl ⟨f1, fs, cs, rfl, hf, ?_⟩⟩
   refine hc.mono ?_
   rintro _ w6 ⟨r3, r4, rfl, hr, F2, hP2, X2, hF2⟩
   obtain ⟨k6, R6⟩ := R5.make hP2 X2 hF2
   have hW2 := Sp.doOp_wf hW1 G M o
   generalize Sp.doOp L1 G M o = D at *
   obtain ⟨d1, d2, L2⟩ := D
   simp only [Prod.mk.injEq] at hr
   obtain ⟨rfl, rfl⟩ := hr
   simp only at hrun R6 hW2
   refine ⟨_, _, rfl, k6, fun h => ?_, fun h => ?_⟩
   ·rw [if_pos (by simpa using h)] at hrun
    exact ⟨sm, R6.ck.box.cell rfl, R6.done hrun⟩
   ·rw [if_neg (by simpa using h)] at hrun
    refine ⟨sm, R6.ck.box.cell rfl, ?_⟩
    intro q w7 n7
    obtain ⟨s1, w8, hr8, k8, cw, R9⟩ := R6.app n7 (by omega)
    refine ⟨s1, w8, hr8, k8, cw, by rw [add_block]; exact R6.oc.2.1, ?_⟩
    rintro _ rfl
    rw [wrap_succ hlt (by omega)]
    exact ⟨⟨j + 1, M ++ [_], L2, s1, F2, rfl, hlt, by simp [hMj], hW2, hrun, R9⟩, lt_dec hlt⟩
 ·have hge := eq_of_dec hll hj h
  subst hge
  refine ⟨sm, R.ck.box.cell rfl, R.done ?_⟩
  rw [hrun, List.drop_length]; rfl
theorem refuses_eq {p k : Addr} {sl : Sl} {n : Nat} (h : sl.len = n) : s_recipe_refuses (some p) (some k) sl = (if n > 256 then 6 else if n = 0 then 3 else 0) := by
 unfold s_recipe_refuses
 rw [h]
 simp only [Option.isNone_some, Bool.or_self, cond_false]
 by_cases h1 : n > 256
 ·rw [if_pos h1, decide_eq_true (by omega)]; rfl
 ·rw [if_neg h1, decide_eq_false (by omega)]
  by_cases h2 : n = 0
  ·subst h2; rfl
  ·rw [if_neg h2, show (((n : Int) == 0) = false) from by simpa using h2]; rfl
abbrev EvalK (w0 : World) (p : Addr) (F : Nat → Prop) (R : Int × Int × Int × Sp.Pool) (r1 r2 r3 : Int) (w' : World) : Prop := (r1, r2, r3) = (R.1, R.2.1, R.2.2.1) ∧ ∃ F', PoolAt w' p R.2.2.2 F' ∧ Ext F w0 w' ∧ ∀ b, F' b → F b ∨ w0.heap.size ≤ b
section
variable {Sl0 : Nat → Prop} (p k : Addr) (sl : Sl) (l : List Sp.Op) (w0 : World) {L : Sp.Pool} {G : List Int} {S : List Sp.Way} {F FK : Nat → Prop} (hW : Sp.Wf L) (hP : PoolAt w0 p L F) (hK : KnowAt w0 k p G S FK) (hl : Lst Sl0 w0 5 sl (l.map oprow)) (hS0 : ∀ b, Sl0 b → b < w0.heap.size ∧ ¬ F b) (hG : G.length ≤ 1000000) (hn : l.length ≤ 1000)
include hW hP hK hl hS0 hG hn
theorem c_recipe_Eval : Calls Try.prog 18 #[.pointer (some p), .pointer (some k), sl.v] w0 (fun e w' => ∃ r1 : Int, ∃ r2 : Int, ∃ r3 : Int, e = .returned (.tuple #[.int .i64 r1, .int .i64 r2, .int .i64 r3]) ∧ EvalK w0 p F (Sp.evalOps L G l) r1 r2 r3 w') := by
 refine w_recipe_Eval _ _ _ w0 (EvalK w0 p F (Sp.evalOps L G l)) ?_
 unfold m_recipe_Eval
 have hll : sl.len = l.length := by rw [hl.len]; simp
 rw [refuses_eq hll]
 unfold Sp.evalOps
 by_cases h1 : l.length > 256
 ·rw [if_pos h1, if_pos h1]
  exact Br.t rfl (fun w1 hs1 => ⟨rfl, F, hP.pure hs1.first, hs1.first.pure, fun b hb => .inl hb⟩)
 rw [if_neg h1, if_neg h1]
 by_cases h2 : l.length = 0
 ·rw [if_pos h2, if_pos h2]
  exact Br.t rfl (fun w1 hs1 => ⟨rfl, F, hP.pure hs1.first, hs1.first.pure, fun b hb => .inl hb⟩)
 rw [if_neg h2, if_neg h2]
 refine Br.f rfl (fun w1 hs1 => ?_)
 have E1 := hs1.first
 refine (c_recipe_run p k sl l w1 hW (hP.pure E1) (hK.pure E1) (hl.pure E1) (fun b hb => ⟨by have := (hS0 b hb).1; have := E1.size; omega, (hS0 b hb).2⟩) hG hn).mono ?_
 rintro _ w2 ⟨s, r2, rfl, hR⟩
 obtain ⟨he, ⟨F', hP', hF', hdj⟩, hrows, hown, X⟩ := hR
 refine ⟨s, r2, rfl, X.kept (fun b hb => hb.elim), ?_⟩
 have hlen := Sp.runOps_len G l L []
 have fin : ∃ F', PoolAt w2 p (Sp.runOps L G [] l).2.2 F' ∧ Ext F w0 w2 ∧ ∀ b, F' b → F b ∨ w0.heap.size ≤ b := ⟨F', hP', E1.pure.trans X, fun b hb => (hF' b hb).imp_right (fun h => by have := E1.size; omega)⟩
 generalize Sp.runOps L G [] l = R at *
 obtain ⟨M, e, L2⟩ := R
 simp only at he hrows hlen fin hP'
 subst he
 simp only [List.length_nil, Nat.zero_add] at hlen
 have hsl : s.len = M.length := by rw [hrows.len, tmr_len]
 refine ⟨fun h => ?_, fun h => ?_⟩
 ·rw [if_pos (by simpa using h)]
  exact ⟨by rw [hsl], fin⟩
 ·have h0 : r2 = 0 := by simpa using h
  rw [if_neg (by simpa using h0)]
  have hM := hlen.2 h0
  have hne : M ≠ [] := fun e => by rw [e] at hM; simp at hM; omega
  rw [show IntKind.i64.wrap ((s.len : Int) - 1) = (((l.length - 1 : Nat)) : Int) by rw [hsl, hM, IntWalk.i64_in _ (by omega)]; omega]
  have hat : Sp.atM M ((l.length - 1 : Nat) : Int) = some (M.getLast hne) := by
   rw [Sp.atM_in (by omega) (by omega)]
   simp [List.getLast_eq_getElem, hM]
  obtain ⟨a, ha, hc⟩ := tms_nth hrows hat
  refine ⟨a, ha, _, hc, ?_, fin⟩
  rw [List.getLast?_eq_some_getLast hne]; rfl
end
end Go.Proofs
end
section
namespace Go.Sp
end Go.Sp
end
section
namespace Go.Sp
end Go.Sp
end
section
open Go Go.SE
namespace Go.Sp
def l9t : List Tree := [.mk 7 0 0 0 ⟨#[]⟩ [.mk 2 0 0 1 ⟨#[]⟩ []], .mk 6 0 0 0 ⟨#[]⟩ []]
def l9p : Pool := [⟨⟨2, 0, 0, 1, ⟨#[]⟩, 0, 0⟩, 1, 1⟩, ⟨⟨7, 0, 0, 0, ⟨#[]⟩, 1, 0⟩, 2, 2⟩, ⟨⟨6, 0, 0, 0, ⟨#[]⟩, 0, 0⟩, 1, 1⟩]
def l9a : List Op := [⟨0, 0, 0, 0, ⟨#[]⟩⟩, ⟨8, 0, 0, 0, ⟨#[]⟩⟩, ⟨5, 1, 0, 0, ⟨#[]⟩⟩, ⟨0, 1, 0, 0, ⟨#[]⟩⟩, ⟨9, 2, 3, 0, ⟨#[]⟩⟩]
def l9b : List Op := [⟨0, 0, 0, 0, ⟨#[]⟩⟩, ⟨6, 0, 0, 0, ⟨#[]⟩⟩]
def l9q : Pool := l9p ++ [⟨⟨5, 0, 0, 0, ⟨#[]⟩, 1, 0⟩, 2, 2⟩, ⟨⟨7, 0, 0, 0, ⟨#[]⟩, 4, 0⟩, 3, 3⟩]
theorem l9s : sideAll l9t = (l9p, [2, 3]) := by kernel_rfl
theorem l9e : evalOps l9p [2, 3] l9a = (5, 0, 0, l9q) := by kernel_rfl
theorem l9f : evalOps l9q [2, 3] l9b = (0, 90, 1, l9q) := by kernel_rfl
theorem l9n : nodeOf l9q 5 = ⟨7, 0, 0, 0, ⟨#[]⟩, 4, 0⟩ := by kernel_rfl
end Go.Sp
namespace Go.Proofs
attribute [local irreducible] Calls
theorem Lst.of_box {w : World} {p : Addr} {T : TypeId} {sz : Nat} (rs : List (List Value)) (hsz : ∀ r ∈ rs, r.length = sz) (h : Box w p rs.flatten T) : Lst (· = p.block) w sz ⟨some p, rs.length, rs.length⟩ rs := by
 refine ⟨rfl, fun i hi => ⟨p.add (i * sz), ⟨by omega, by show (i : Int) < (rs.length : Int); omega, p, rfl, rfl⟩, by rw [add_block], fun j hj => ?_⟩⟩
 have hl := hsz _ (List.getElem_mem hi)
 rw [add_add, List.getElem?_eq_getElem hj]
 refine h.cell ?_
 rw [flatten_get hsz hi (by omega), List.getElem?_eq_getElem hj]
theorem oprow_sz (l : List Sp.Op) : ∀ q ∈ l.map oprow, q.length = 5 := by intro q hq; obtain ⟨o, _, rfl⟩ := List.mem_map.1 hq; rfl
theorem c_live9 (w0 : World) : Calls Try.prog 14 #[] w0 (fun e w' => ∃ r : Bool, e = .returned (.bool r) ∧ (r = true ∧ Pure w0 w')) := by
 refine w_law09_live w0 (fun r w' => r = true ∧ Pure w0 w') ?_
 unfold m_law09_live
 intro p1 w1 n1 p2 w2 n2
 have E1 : Pure w0 w1 := Ext.new n1
 have E2 : Pure w1 w2 := Ext.new n2
 have hT : TreeAt (fun b => b = p1.block ∨ b = p2.block) w2 ⟨some p2, 2, 2⟩ (.mk 0 0 0 0 ⟨#[]⟩ Sp.l9t) :=
  TreeAt.pair (A := .mk 7 0 0 0 ⟨#[]⟩ [.mk 2 0 0 1 ⟨#[]⟩ []]) (B := .mk 6 0 0 0 ⟨#[]⟩ []) (sa := ⟨some p1, 1, 1⟩) (sb := Sl.nil) (Box.of_new n2) (.inr rfl) (TreeAt.one (A := .mk 2 0 0 1 ⟨#[]⟩ []) (sa := Sl.nil) ((Box.of_new n1).pure E2) (.inl rfl) TreeAt.leaf) TreeAt.leaf
 have z1 := (Box.of_new n1).lt
 have z2 := (Box.of_new n2).lt
 have y2 := E2.size
 refine (c_law09_given (ST := fun b => b = p1.block ∨ b = p2.block) Sp.l9t ⟨some p2, 2, 2⟩ w2 hT (fun b hb => by rcases hb with rfl | rfl <;> omega) (by decide) (by decide)).mono ?_
 rintro _ w3 ⟨_, _, rfl, s, p, k, q, sg, S, FP, FK, FR, rfl, rfl, A, hk⟩
 rw [Sp.l9s] at A hk
 simp only at A hk
 have hW : Sp.Wf Sp.l9p := by have := Sp.sideAll_wf Sp.l9t; rwa [Sp.l9s] at this
 have hWq : Sp.Wf Sp.l9q := by have := Sp.evalOps_wf hW [2, 3] Sp.l9a; rwa [Sp.l9e] at this
 refine ⟨_, _, rfl, A.pure.keptP, Br.f rfl ?_⟩
 have Ad := A.pureE (Ext.drew w3)
 refine ⟨fun w => Box w s [.pointer (some p), .pointer (some k), .pointer (some q), sg.v] 36, Ad.box, ?_⟩
 rintro _ rfl
 refine ⟨s, rfl, some p, fun _ h => h.cell0, s, rfl, some k, fun _ h => h.cell rfl, ?_⟩
 intro p3 w5 n5
 have E5 : Pure w3.drew w5 := Ext.new n5
 have A5 := Ad.pureE E5
 refine ⟨A5.box, ?_⟩
 have b3 := n5.at_size
 refine (c_recipe_Eval (Sl0 := (· = p3.block)) p k ⟨some p3, 5, 5⟩ Sp.l9a w5 hW A5.pool A5.know (Lst.of_box (Sp.l9a.map oprow) (oprow_sz _) (Box.of_new n5)) (fun b hb => by subst hb; exact ⟨(Box.of_new n5).lt, fun hf => by have := Ad.pool.lt hf; omega⟩) (by decide) (by decide)).mono ?_
 rintro _ w6 ⟨r3, r4, r5, rfl, hr, F', hP6, X6, hF6⟩
 rw [Sp.l9e] at hr hP6
 cases hr
 obtain ⟨k6, A6⟩ := A5.prog hP6 X6 hF6
 refine ⟨_, _, _, rfl, A6.box, k6, ?_⟩
 have Ae := A6.pureE (Ext.drew w6)
 refine ⟨fun w => Box w s [.pointer (some p), .pointer (some k), .pointer (some q), sg.v] 36, Ae.box, ?_⟩
 rintro _ rfl
 refine ⟨s, rfl, some p, fun _ h => h.cell0, s, rfl, some k, fun _ h => h.cell rfl, ?_⟩
 intro p4 w8 n8
 have E8 : Pure w6.drew w8 := Ext.new n8
 have A8 := Ae.pureE E8
 refine ⟨A8.box, ?_⟩
 have b4 := n8.at_size
 refine (c_recipe_Eval (Sl0 := (· = p4.block)) p k ⟨some p4, 2, 2⟩ Sp.l9b w8 hWq A8.pool A8.know (Lst.of_box (Sp.l9b.map oprow) (oprow_sz _) (Box.of_new n8)) (fun b hb => by subst hb; exact ⟨(Box.of_new n8).lt, fun hf => by have := Ae.pool.lt hf; omega⟩) (by decide) (by decide)).mono ?_
 rintro _ w9 ⟨r6, r7, r8, rfl, hr, F'', hP9, X9, hF9⟩
 rw [Sp.l9f] at hr hP9
 cases hr
 obtain ⟨k9, A9⟩ := A8.prog hP9 X9 hF9
 refine ⟨_, _, _, rfl, A9.box, k9, s, rfl, some p, A9.box.cell0, ?_⟩
 refine (c_Node p 5 w9 A9.pool hWq.ok).mono ?_
 rintro _ w10 ⟨nk, nf, nt, nu, nx, na, nb, r9, rfl, ⟨hn, _⟩, E10⟩
 rw [Sp.l9n] at hn
 cases hn
 refine ⟨_, _, _, _, _, _, _, _, rfl, E10.keptP, fun H w hs => ⟨rfl, ?_⟩⟩
 exact (((E1.trans E2).trans A9.pure).trans E10).trans' hs.ext (fun b hb hh => by have := hs.old b hh; omega)
end Go.Proofs
end
section
open Go Go.SE
namespace Go.Proofs
attribute [local irreducible] Calls
theorem refuses_nil (p : Option Addr) (sl : Sl) : s_recipe_refuses p none sl = 2 := by
 unfold s_recipe_refuses
 cases p <;> rfl
theorem c_recipe_Eval0 (p : Option Addr) (sl : Sl) (w0 : World) : Calls Try.prog 18 #[.pointer p, .pointer none, sl.v] w0 (fun e w' => ∃ r1 : Int, ∃ r2 : Int, ∃ r3 : Int, e = .returned (.tuple #[.int .i64 r1, .int .i64 r2, .int .i64 r3]) ∧ ((r1 = 0 ∧ r2 = 2 ∧ r3 = 0) ∧ Pure w0 w')) := by
 refine w_recipe_Eval _ _ _ w0 (fun r1 r2 r3 w' => (r1 = 0 ∧ r2 = 2 ∧ r3 = 0) ∧ Pure w0 w') ?_
 unfold m_recipe_Eval
 rw [refuses_nil]
 exact Br.t rfl (fun w1 hs1 => ⟨⟨rfl, rfl, rfl⟩, hs1.first⟩)
theorem c_recipe_Trace0 (p : Option Addr) (sl : Sl) (w0 : World) : Calls Try.prog 16 #[.pointer p, .pointer none, sl.v] w0 (fun e w' => ∃ r : Sl, e = .returned r.v ∧ (r = Sl.nil ∧ Pure w0 w')) := by
 refine w_recipe_Trace _ _ _ w0 (fun r w' => r = Sl.nil ∧ Pure w0 w') ?_
 unfold m_recipe_Trace
 rw [refuses_nil]
 exact Br.t rfl (fun w1 hs1 => ⟨rfl, hs1.first⟩)
theorem c_recipe_For0 (p : Option Addr) (t : Int) (w0 : World) : Calls Try.prog 38 #[.pointer p, .pointer none, .int .i64 t] w0 (fun e w' => ∃ r : Sl, ∃ ok : Bool, e = .returned (.tuple #[r.v, .bool ok]) ∧ ((r = Sl.nil ∧ ok = false) ∧ Pure w0 w')) := by
 refine w_recipe_For _ _ _ w0 (fun r ok w' => (r = Sl.nil ∧ ok = false) ∧ Pure w0 w') ?_
 unfold m_recipe_For
 exact Br.t (by simp) (fun H1 w1 hs1 => ⟨⟨rfl, rfl⟩, hs1.first⟩)
theorem c_law09_RecipeNil {So : Nat → Prop} (ops : List Sp.Op) (so : Sl) (t : Int) (w0 : World) (ho : Lst So w0 5 so (ops.map oprow)) :
  Calls Try.prog 8 #[so.v, .int .i64 t] w0 (fun e w' => ∃ r : Bool, e = .returned (.bool r) ∧ (r = true ∧ Pure w0 w')) := by
 refine w_law09_RecipeNil _ _ w0 (fun r w' => r = true ∧ Pure w0 w') ?_
 unfold m_law09_RecipeNil
 refine (c_law09_long ops so w0 ho).mono ?_
 rintro _ w1 ⟨r1, rfl, _, E1⟩
 refine ⟨_, rfl, E1.keptP, fun _ => ?_, fun _ => ?_⟩
 ·refine (c_live9 w1).mono ?_
  rintro _ w2 ⟨r2, rfl, hr, E2⟩
  exact ⟨_, rfl, E2.keptP, hr, E1.trans E2⟩
 refine (c_New w1).mono ?_
 rintro _ w3 ⟨_, rfl, p, rfl, E3, _⟩
 refine ⟨_, rfl, E3.keptP, ?_⟩
 refine (c_recipe_Eval0 none so w3).mono ?_
 rintro _ w4 ⟨_, _, _, rfl, ⟨rfl, rfl, rfl⟩, E4⟩
 refine ⟨_, _, _, rfl, E4.keptP, ?_⟩
 refine (c_recipe_Eval0 (some p) so w4).mono ?_
 rintro _ w5 ⟨_, _, _, rfl, ⟨rfl, rfl, rfl⟩, E5⟩
 refine ⟨_, _, _, rfl, E5.keptP, ?_⟩
 refine (c_recipe_For0 (some p) t w5).mono ?_
 rintro _ w6 ⟨_, _, rfl, ⟨rfl, rfl⟩, E6⟩
 have E := (((E1.trans E3).trans E4).trans E5).trans E6
 refine ⟨_, _, rfl, E6.keptP, ?_⟩
 rintro _ rfl
 refine Br.t rfl (fun H w hs => ?_)
 have Ew := E.hst hs
 refine (c_recipe_Trace0 (some p) so w).mono ?_
 rintro _ w19 ⟨_, rfl, rfl, E19⟩
 refine ⟨_, rfl, E19.keptP, ?_⟩
 unfold m_law09_RecipeNil_j1
 have hs19 := hs.here.again E19.keptP
 refine Br.t rfl (fun H2 w2 hs2 => ?_)
 have E2 := (Ew.trans E19).hst hs2
 refine (c_live9 w2).mono ?_
 rintro _ w18 ⟨_, rfl, rfl, E18⟩
 exact ⟨_, rfl, E18.keptP, rfl, E2.trans E18⟩
end Go.Proofs
end
section
namespace Go.SE
open Go.ChangeShapes Go.WideShapes Go.ChangeAt Go.RowKit
section
variable {H : Type} {enc : TypeId × Value → H} {P : Program}
theorem below_trodAll (hl : laidOutB P = true) {W W' : World} (hb : Below W.heap.size W W') : ∀ (ts : List TypeId) (vs : List Value) (ds : List (DataW H)) (ps : List MemPlace), (ts.all fun t => P.readableRec t && decide (t < P.types.size)) = true →
  DataW.TrodAll enc P W 0 (fun _ => true) true ts vs ds ps → (∀ x ∈ ps, x.block < W.heap.size) → DataW.TrodAll enc P W' 0 (fun b => decide (b < W.heap.size)) true ts vs ds ps
 | [], _, _, _, _, h, _ => by
  obtain ⟨rfl, rfl, rfl⟩ := trodAll_nil h
  exact h
 | t :: ts, _, _, _, hr, h, hlt => by
  obtain ⟨v, vs1, d, ds1, a, b, rfl, rfl, rfl, h1, h2⟩ := trodAll_cons h
  simp only [List.all_cons, Bool.and_eq_true, decide_eq_true_eq] at hr
  exact ⟨a, b, Below.trod hl hr.1.1 hr.1.2 h1 hb (fun x hx => hlt x (by simp [hx])), below_trodAll hl hb ts vs1 ds1 b (by simpa using hr.2) h2 (fun x hx => hlt x (by simp [hx])), rfl⟩
theorem law_post {f : Func} {s : ChangeSpec} {W W' : World} {args : Array Value} {ds gs : List (DataW H)} {before : List MemPlace} {t : TypeId} (hl : laidOutB P = true)
  (hv : s.vars = []) (hf : ∀ ds : List (DataW H), ds.length = f.params.size → s.fn H ds = { results := [.lit (.bool true)], args := ds }) (hrt : f.resultTypes = #[t]) (ht : P.underlying t = some .bool)
  (hr : (f.params.toList.all fun t => P.readableRec t && decide (t < P.types.size)) = true)
  (hW : DataW.Whole enc P f.params.toList s.vars false W args.toList ds gs before) (E : Pure W W') :
  s.post enc P f false true false false W args (.bool true) W' := by
 have hW' := hW
 obtain ⟨p, q, hA, hV, rfl, hfz, hnd⟩ := hW
 rw [hv] at hV
 obtain ⟨rfl, rfl⟩ := trodVars_none hV
 have hlen : ds.length = f.params.size := by
  have : ∀ (ts : List TypeId) (vs : List Value) (ds : List (DataW H)) (ps : List MemPlace), DataW.TrodAll enc P W 0 (fun _ => true) true ts vs ds ps → ds.length = ts.length := by
   intro ts
   induction ts with
   | nil => intro vs ds ps h; obtain ⟨_, rfl, _⟩ := trodAll_nil h; rfl
   | cons t ts ih =>
    intro vs ds ps h
    obtain ⟨v, vs1, d, ds1, a, b, _, rfl, _, _, h2⟩ := trodAll_cons h
    simp [ih _ _ _ h2]
  simpa using this _ _ _ _ hA
 have hfn := hf ds hlen
 have hfn' : s.fn H (ds ++ []) = { results := [.lit (.bool true)], args := ds } := by rw [List.append_nil]; exact hfn
 have hlt : ∀ x ∈ p, x.block < W.heap.size := fun x hx => by simpa using hW'.lt x (by simp [hx])
 have bel := E.below
 refine ⟨ds, [], p ++ [], [], p, [], hW', ?_, ?_, ?_, bel.frame _, fun h => by cases h⟩
 ·rw [hfn', hrt]; exact trodAll_mk1 (shut_bool ht _)
 ·rw [hfn']; exact below_trodAll hl bel _ _ _ _ hr hA hlt
 ·rw [hfn', hv]; exact hV
theorem law_lifted {C : Checked} {os : Os} {f : FuncId} {fn : Func} {s : ChangeSpec} {t : TypeId} (hl : laidOutB C.prog = true)
  (hv : s.vars = []) (hf : ∀ ds : List (DataW H), ds.length = fn.params.size → s.fn H ds = { results := [.lit (.bool true)], args := ds }) (hrt : fn.resultTypes = #[t]) (ht : C.prog.underlying t = some .bool)
  (hr : (fn.params.toList.all fun t => C.prog.readableRec t && decide (t < C.prog.types.size)) = true)
  (own : ownKnob C.prog.godebug = none) (started : os.Started) (noInit : C.prog.inits.idxOf? f = none) (hfn : C.prog.funcs[f]? = some fn)
  (witness : ∃ (w : World) (tape : Tape) (i : Input), w.os = os ∧ (w.forCall tape i).Shaped C.prog ∧ i.vars = [] ∧ Input.okWide C.prog (w.forCall tape i) .any w.heap.size f i ∧
   s.pre6 enc C.prog fn [] false (w.forCall tape i).memory i.args ∧ ({} : Assume).holds C.prog (lone (Frame.enter C.prog f i.args .normal) [] (w.forCall tape i)))
  (contract : ∀ (W : World) (base : Nat) (args : Array Value) (ds : List (DataW H)) (p : List MemPlace),
   (∀ (j : Nat) t v, fn.params[j]? = some t → args[j]? = some v → Value.okWide C.prog W .any base t v) →
   DataW.TrodAll enc C.prog W 0 (fun _ => true) true fn.params.toList args.toList ds p → (∀ x ∈ p, x.block < W.heap.size) →
   Calls C.prog f args W (fun e W' => ∃ r : Bool, e = .returned (.bool r) ∧ (r = true ∧ Pure W W'))) :
  ReturnsInHanded {} C os f .any (s.pre6 enc C.prog fn [] false) (s.post enc C.prog fn false true false false) := by
 refine returnsInHanded_of_change own started noInit hfn witness ?_
 intro W base args ds gs before hval hW _ _
 have hW' := hW
 obtain ⟨p, q, hA, hV, rfl, hfz, hnd⟩ := hW
 refine (contract W base args ds p hval hA (fun x hx => by simpa using hW'.lt x (by simp [hx]))).mono fun e W' ⟨r, he, h1, h2⟩ => ?_
 subst h1
 exact ⟨_, he, law_post hl hv hf hrt ht hr hW' h2⟩
end
end Go.SE
namespace Go.SE
open Go.ChangeShapes Go.WideShapes Go.ChangeAt Go.RowKit
section
variable {P : Program} {W : World} {r : Reach} {b0 : Nat} {t : TypeId} {v : Value}
theorem okWide_sl {e : TypeId} (ht : P.underlying t = some (.slice e)) (h : Value.okWide P W r b0 t v) : ∃ a n c, v = .slice a n c := by
 unfold Value.okWide at h
 rw [ht] at h
 simp only at h
 unfold Cell.okWide at h
 rw [ht] at h
 cases v <;> simp [Cell.ok, ht] at h
 exact ⟨_, _, _, rfl⟩
end
end Go.SE
end
section
open Go Go.SE
namespace Go.Proofs
theorem mapM_facts {α β : Type} {f : α → Option β} : ∀ {l : List α} {r : List β}, l.mapM f = some r → r.length = l.length ∧ ∀ (i : Nat) (a : α), l[i]? = some a → ∃ b, f a = some b ∧ r[i]? = some b
 | [], r, h => by
  have : r = [] := by simpa using h.symm
  subst this
  exact ⟨rfl, fun i a h => by simp at h⟩
 | x :: xs, r, h => by
  rw [List.mapM_cons] at h
  cases hx : f x with
  | none => simp [hx] at h
  | some y =>
   cases hxs : xs.mapM f with
   | none => simp [hx, hxs] at h
   | some ys =>
    have : r = y :: ys := by simpa [hx, hxs] using h.symm
    subst this
    obtain ⟨h1, h2⟩ := mapM_facts hxs
    refine ⟨by simp [h1], fun i a ha => ?_⟩
    cases i with
    | zero => cases ha; exact ⟨y, hx, rfl⟩
    | succ i => exact h2 i a (by simpa using ha)
theorem cells_row {w : World} {base : Nat} {a : Addr} {n : Nat} {cs : List Value} (h : w.cells? base a n = some cs) : cs.length = n ∧ Row w a cs := by
 obtain ⟨_, h1, h2⟩ := World.cells?_some h
 exact ⟨h1, fun j hj => h2 j (by omega)⟩
section
variable {H : Type} {enc : TypeId × Value → H} {P : Program} {W : World} {base : Nat} {sp : Nat → Bool} {held : Bool}
theorem trod_int1 {t : TypeId} {k : IntKind} (ht : P.underlying t = some (.int k)) {n : Nat} {c : Value} {x : DataW H × List MemPlace} (h : DataW.trod enc P W base sp held n t [c] = some x) : ∃ m, c = .int k m := by
 cases n with
 | zero => cases h
 | succ n =>
  rw [DataW.trod_step] at h
  unfold DataW.trodStep at h
  rw [ht] at h
  cases c <;> simp at h
  obtain ⟨⟨rfl, _⟩, _⟩ := h
  exact ⟨_, rfl⟩
theorem trod_str1 {t : TypeId} (ht : P.underlying t = some .string) {n : Nat} {c : Value} {x : DataW H × List MemPlace} (h : DataW.trod enc P W base sp held n t [c] = some x) : ∃ m, c = .string m := by
 cases n with
 | zero => cases h
 | succ n =>
  rw [DataW.trod_step] at h
  unfold DataW.trodStep at h
  rw [ht] at h
  cases c <;> simp at h
  exact ⟨_, rfl⟩
theorem trod_slice1 {t e : TypeId} (ht : P.underlying t = some (.slice e)) {n : Nat} {c : Value} {x : DataW H × List MemPlace} (h : DataW.trod enc P W base sp held (n + 1) t [c] = some x) :
  c = .slice none 0 0 ∨ ∃ a len cap, c = .slice (some a) len cap ∧ len ≤ cap ∧ cap ≤ maxLen ∧ ∀ i, i < len → ∃ cs y, W.cells? base (a.add (i * P.cellsOf e)) (P.cellsOf e) = some cs ∧ DataW.trod enc P W base sp held n e cs = some y := by
 rw [DataW.trod_step] at h
 unfold DataW.trodStep at h
 rw [ht] at h
 cases c with
 | slice a len cap =>
  cases a with
  | none =>
   cases len with
   | zero => cases cap with
    | zero => exact .inl rfl
    | succ c => simp at h
   | succ l => simp at h
  | some a =>
   right
   simp only at h
   split at h
   ·rename_i hc
    refine ⟨a, len, cap, rfl, hc.2.1, hc.2.2, fun i hi => ?_⟩
    cases hm : (List.range len).mapM fun i => (W.cells? base (a.add (i * P.cellsOf e)) (P.cellsOf e)).bind (DataW.trod enc P W base sp held n e) with
    | none => rw [hm] at h; cases h
    | some r =>
     obtain ⟨b, hb, _⟩ := (mapM_facts hm).2 i i (by simp [hi])
     obtain ⟨cs, h1, h2⟩ := Option.bind_eq_some_iff.1 hb
     exact ⟨cs, b, h1, h2⟩
   ·cases h
 | _ => simp at h
end
end Go.Proofs
end
section
open Go Go.SE
namespace Go.Sp
def Dep (L : Pool) (S : List Way) (t y : Int) : Prop :=
 (∃ v ∈ S, v.t = t ∧ v.rule ≠ 0 ∧ y = v.frm) ∨ (t ∉ wkeys S ∧ 0 < y ∧ (y = (madeS L S t).1 ∨ y = (madeS L S t).2.1))
inductive Dp (L : Pool) (S : List Way) : Int → Int → Prop
 | refl (t : Int) : Dp L S t t
 | step {t y z : Int} : Dep L S t y → Dp L S y z → Dp L S t z
theorem Dep.made {L : Pool} {S : List Way} {t y a b : Int} {f m : Bool} (h : madeS L S t = (a, b, f, m)) (ht : t ∉ wkeys S) : Dep L S t y ↔ 0 < y ∧ (y = a ∨ y = b) := by
 unfold Dep
 rw [h]
 constructor
 ·rintro (⟨v, hv, rfl, _⟩ | ⟨_, h⟩)
  ·exact absurd (List.mem_map.2 ⟨v, hv, rfl⟩) ht
  ·exact h
 ·exact fun h => .inr ⟨ht, h⟩
theorem Dep.way {L : Pool} {S : List Way} {t y r f : Int} (hn : (wkeys S).Nodup) (hl : SE.look (S.map fun v => (v.t, (v.rule, v.frm))) t = some (r, f)) : Dep L S t y ↔ r ≠ 0 ∧ y = f := by
 have hm := look_mem hl
 obtain ⟨v, hv, e⟩ := List.mem_map.1 hm
 simp only [Prod.mk.injEq] at e
 obtain ⟨rfl, rfl, rfl⟩ := e
 have hk : v.t ∈ wkeys S := List.mem_map.2 ⟨v, hv, rfl⟩
 unfold Dep
 constructor
 ·rintro (⟨u, hu, e, hr, rfl⟩ | ⟨h, _⟩)
  ·have hnd : ((S.map fun v => (v.t, (v.rule, v.frm))).map Prod.fst).Nodup := by rw [List.map_map]; exact hn
   have h2 := look_of_mem hnd (List.mem_map.2 ⟨u, hu, rfl⟩)
   rw [e, hl] at h2
   simp only [Option.some.injEq, Prod.mk.injEq] at h2
   exact ⟨by rw [h2.1]; exact hr, h2.2.symm⟩
  ·exact absurd hk h
 ·rintro ⟨h1, rfl⟩
  exact .inl ⟨v, hv, rfl, h1, rfl⟩
theorem Dp.all {L : Pool} {S : List Way} {M : List Step} (hc : ∀ s ∈ M, ∀ y, Dep L S s.t y → y ∈ M.map Step.t) {t x : Int} (ht : t ∈ M.map Step.t) (h : Dp L S t x) : x ∈ M.map Step.t := by
 induction h with
 | refl => exact ht
 | step hd _ ih =>
  obtain ⟨s, hs, rfl⟩ := List.mem_map.1 ht
  exact ih (hc s hs _ hd)
end Go.Sp
namespace Go.Proofs
attribute [local irreducible] Calls
def strow (s : Sp.Step) : List Value := [.int .i64 s.rule, .int .i64 s.a, .int .i64 s.b, .int .i64 s.t]
def tru (_ : Unit) : Value := .bool true
def bmap (B : List Int) : List (Int × Unit) := B.map fun t => (t, ())
theorem bmap_snoc (B : List Int) (t : Int) : bmap (B ++ [t]) = bmap B ++ [(t, ())] := by simp [bmap]
def PW (ma mb : Nat) (c5 : Addr) (sl : Sl) (b : Nat) : Prop := b = ma ∨ b = mb ∨ b = c5.block ∨ sl.blk b
def says (f : FuncId) (c1 c2 c3 c4 c5 : Addr) : Value := .func (.func f) #[] #[.pointer (some c1), .pointer (some c2), .pointer (some c3), .pointer (some c4), .pointer (some c5)]
structure PrfAt (w : World) (k : Addr) (c1 c2 c3 c4 c5 : Addr) (ma mb : Nat) (sl : Sl) (l : List Sp.Step) (B : List Int) : Prop where
 a1 : w.cell? c1 = some (.map (some ma))
 a2 : w.cell? c2 = some (.map (some mb))
 a3 : w.cell? c3 = some (.pointer (some k))
 a4 : w.cell? c4 = some (says 84 c1 c2 c3 c4 c5)
 a5 : Box w c5 [sl.v] 73
 am : IMap ikey w ma (Sp.amap l)
 bm : IMap tru w mb (bmap B)
 ls : Rws w 136 4 sl (l.map strow)
 d : ∀ b, PW ma mb c5 sl b → b ≠ c1.block ∧ b ≠ c2.block ∧ b ≠ c3.block ∧ b ≠ c4.block
 n1 : ma ≠ mb
 n2 : ma ≠ c5.block
 n3 : mb ≠ c5.block
 n4 : ¬ sl.blk ma
 n5 : ¬ sl.blk mb
 n6 : ¬ sl.blk c5.block
structure SaysAt (w : World) (k p : Addr) (c1 c2 c3 c4 c5 : Addr) (ma mb : Nat) (L : Sp.Pool) (G : List Int) (S : List Sp.Way) (F FP : Nat → Prop) (sl : Sl) (l : List Sp.Step) (B : List Int) : Prop where
 prf : PrfAt w k c1 c2 c3 c4 c5 ma mb sl l B
 know : KnowAt w k p G S F
 pool : PoolAt w p L FP
 dF : ∀ b, F b → ¬ PW ma mb c5 sl b
 dP : ∀ b, FP b → ¬ PW ma mb c5 sl b
section
variable {w w' : World} {k p c1 c2 c3 c4 c5 : Addr} {ma mb : Nat} {L : Sp.Pool} {G : List Int} {S : List Sp.Way} {F FP : Nat → Prop} {sl : Sl} {l : List Sp.Step} {B : List Int}
theorem PrfAt.ext {X : Nat → Prop} (h : PrfAt w k c1 c2 c3 c4 c5 ma mb sl l B) (hE : Ext X w w') (h1 : ∀ b, PW ma mb c5 sl b → ¬ X b) (x1 : ¬ X c1.block) (x2 : ¬ X c2.block) (x3 : ¬ X c3.block) (x4 : ¬ X c4.block) : PrfAt w' k c1 c2 c3 c4 c5 ma mb sl l B :=
 ⟨hE.cell h.a1 x1, hE.cell h.a2 x2, hE.cell h.a3 x3, hE.cell h.a4 x4, h.a5.ext hE (h1 _ (.inr (.inr (.inl rfl)))), h.am.ext hE (h1 _ (.inl rfl)), h.bm.ext hE (h1 _ (.inr (.inl rfl))), h.ls.ext hE (fun b hb => h1 b (.inr (.inr (.inr hb)))), h.d, h.n1, h.n2, h.n3, h.n4, h.n5, h.n6⟩
theorem PrfAt.lt (h : PrfAt w k c1 c2 c3 c4 c5 ma mb sl l B) {b : Nat} (hb : PW ma mb c5 sl b) : b < w.heap.size := by
 rcases hb with rfl | rfl | rfl | hb
 ·exact h.am.lt
 ·exact h.bm.lt
 ·exact h.a5.lt
 ·exact h.ls.lt hb
theorem SaysAt.ext {X : Nat → Prop} {n : Nat} (h : SaysAt w k p c1 c2 c3 c4 c5 ma mb L G S F FP sl l B) (hE : Ext X w w') (hn : ∀ b, X b → n ≤ b) (z1 : ∀ b, PW ma mb c5 sl b → b < n ∨ ¬ X b) (zc : c1.block < n ∧ c2.block < n ∧ c3.block < n ∧ c4.block < n) (zF : ∀ b, F b → b < n) (zP : ∀ b, FP b → b < n) : SaysAt w' k p c1 c2 c3 c4 c5 ma mb L G S F FP sl l B := by
 have hx : ∀ b, b < n → ¬ X b := fun b hb hX => by have := hn b hX; omega
 exact ⟨h.prf.ext hE (fun b hb => (z1 b hb).elim (hx b) id) (hx _ zc.1) (hx _ zc.2.1) (hx _ zc.2.2.1) (hx _ zc.2.2.2), h.know.ext hE (fun b hb => hx b (zF b hb)), h.pool.ext hE (fun b hb => hx b (zP b hb)), h.dF, h.dP⟩
theorem SaysAt.pure (h : SaysAt w k p c1 c2 c3 c4 c5 ma mb L G S F FP sl l B) (E : Pure w w') : SaysAt w' k p c1 c2 c3 c4 c5 ma mb L G S F FP sl l B :=
 ⟨h.prf.ext E (fun _ _ h => h) (fun h => h) (fun h => h) (fun h => h) (fun h => h), h.know.pure E, h.pool.pure E, h.dF, h.dP⟩
theorem SaysAt.zc (h : SaysAt w k p c1 c2 c3 c4 c5 ma mb L G S F FP sl l B) : c1.block < w.heap.size ∧ c2.block < w.heap.size ∧ c3.block < w.heap.size ∧ c4.block < w.heap.size :=
 ⟨World.block_lt_of_cell? w _ h.prf.a1, World.block_lt_of_cell? w _ h.prf.a2, World.block_lt_of_cell? w _ h.prf.a3, World.block_lt_of_cell? w _ h.prf.a4⟩
theorem PrfAt.bar (h : PrfAt w k c1 c2 c3 c4 c5 ma mb sl l B) (t : Int) : ∃ w', (Instr.mapUpdate 132 (.map (some mb)) (.int .i64 t) (.bool true)).run Try.prog w = .ok () w' ∧ (∃ B', (B' = B ∨ B' = B ++ [t]) ∧ PrfAt w' k c1 c2 c3 c4 c5 ma mb sl l B') ∧ Ext (· = mb) w w' := by
 have hd := h.d mb (.inr (.inl rfl))
 have back : ∀ {w' : World} {B' : List Int}, IMap tru w' mb (bmap B') → Ext (· = mb) w w' → PrfAt w' k c1 c2 c3 c4 c5 ma mb sl l B' := fun hI hE =>
  ⟨hE.cell h.a1 (fun e => hd.1 e.symm), hE.cell h.a2 (fun e => hd.2.1 e.symm), hE.cell h.a3 (fun e => hd.2.2.1 e.symm), hE.cell h.a4 (fun e => hd.2.2.2 e.symm), h.a5.ext hE (fun e => h.n3 e.symm), h.am.ext hE h.n1, hI, h.ls.ext hE (fun b hb e => h.n5 (e ▸ hb)), h.d, h.n1, h.n2, h.n3, h.n4, h.n5, h.n6⟩
 cases hl : SE.look (bmap B) t with
 | none =>
  obtain ⟨w', h1, h2, h3⟩ := h.bm.put (P := Try.prog) (T := 132) Try.underlying132 Try.underlying38 hl ()
  exact ⟨w', h1, ⟨_, .inr rfl, back (by rw [bmap_snoc]; exact h2) h3⟩, h3⟩
 | some v =>
  cases v
  obtain ⟨w', h1, h2, h3⟩ := h.bm.again (P := Try.prog) (T := 132) Try.underlying132 Try.underlying38 hl
  exact ⟨w', h1, ⟨_, .inl rfl, back h2 h3⟩, h3⟩
end
structure SaysRet (w0 : World) (k p : Addr) (c1 c2 c3 c4 c5 : Addr) (ma mb : Nat) (L : Sp.Pool) (G : List Int) (S : List Sp.Way) (F FP : Nat → Prop) (sl : Sl) (l : List Sp.Step) (t r : Int) (ok : Bool) (w' : World) (sl' : Sl) (M : List Sp.Step) (B' : List Int) : Prop where
 st : SaysAt w' k p c1 c2 c3 c4 c5 ma mb L G S F FP sl' (l ++ M) B'
 prf : Sp.PrfOk L G (fun x => x ∈ Sp.wkeys S) (l ++ M) B'
 new : ∀ s ∈ M, Sp.rank S s.t ≤ Sp.rank S t ∧ (Sp.Sub L t s.t ∨ s.t ∈ Sp.wkeys S)
 idx : ok = true → ∃ i, r = ((i : Nat) : Int) ∧ ∃ hi : i < (l ++ M).length, (l ++ M)[i].t = t
 drv : ok = true ↔ Sp.Drv L (fun x => x ∈ Sp.wkeys S) t
 ext : Ext (PW ma mb c5 sl) w0 w'
 own : ∀ b, sl'.blk b → sl.blk b ∨ w0.heap.size ≤ b
 last : ok = true → M = [] ∨ Sp.tAt (l ++ M) (((l ++ M).length : Int) - 1) = t
 dp : ∀ s ∈ M, Sp.Dp L S t s.t
 cl : ∀ s ∈ M, ∀ y, Sp.Dep L S s.t y → y ∈ (l ++ M).map Sp.Step.t
structure SaysCur (w0 : World) (H : Nat → Prop) (w : World) (k p : Addr) (c1 c2 c3 c4 c5 : Addr) (ma mb : Nat) (L : Sp.Pool) (G : List Int) (S : List Sp.Way) (F FP : Nat → Prop) (sl : Sl) (l : List Sp.Step) (t : Int) (sl1 : Sl) (M B : _) : Prop where
 st : SaysAt w k p c1 c2 c3 c4 c5 ma mb L G S F FP sl1 (l ++ M) B
 prf : Sp.PrfOk L G (fun x => x ∈ Sp.wkeys S) (l ++ M) B
 new : ∀ s ∈ M, Sp.rank S s.t < Sp.rank S t ∧ (Sp.Sub L t s.t ∨ s.t ∈ Sp.wkeys S)
 ext : Ext (PW ma mb c5 sl) w0 w
 own : ∀ b, sl1.blk b → sl.blk b ∨ w0.heap.size ≤ b
 vis : ∀ b, sl1.blk b → ¬ H b
 hs : Hst w0 H w H w
 dp : ∀ s ∈ M, Sp.Dp L S t s.t
 cl : ∀ s ∈ M, ∀ y, Sp.Dep L S s.t y → y ∈ (l ++ M).map Sp.Step.t
section
variable {w0 w w' : World} {H H' : Nat → Prop} {k p c1 c2 c3 c4 c5 : Addr} {ma mb : Nat} {L : Sp.Pool} {G : List Int} {S : List Sp.Way} {F FP : Nat → Prop} {sl sl1 sl2 : Sl} {l M M2 : List Sp.Step} {B0 B B2 : List Int} {t : Int}
theorem PW.old (h : SaysAt w0 k p c1 c2 c3 c4 c5 ma mb L G S F FP sl l B0) (ho : ∀ b, sl1.blk b → sl.blk b ∨ w0.heap.size ≤ b) : ∀ b, PW ma mb c5 sl1 b → b < w0.heap.size → PW ma mb c5 sl b := by
 rintro b (hb | hb | hb | hb) hlt
 ·exact .inl hb
 ·exact .inr (.inl hb)
 ·exact .inr (.inr (.inl hb))
 ·exact (ho b hb).elim (fun h => .inr (.inr (.inr h))) (fun h => by omega)
theorem SaysCur.nh (h : SaysCur w0 H w k p c1 c2 c3 c4 c5 ma mb L G S F FP sl l t sl1 M B) (h0 : SaysAt w0 k p c1 c2 c3 c4 c5 ma mb L G S F FP sl l B0) : ∀ b, PW ma mb c5 sl1 b → ¬ H b := by
 have old : ∀ b, b < w0.heap.size → ¬ H b := fun b hb hh => by have := h.hs.old b hh; omega
 rintro b (rfl | rfl | rfl | hb)
 ·exact old _ (h0.prf.lt (.inl rfl))
 ·exact old _ (h0.prf.lt (.inr (.inl rfl)))
 ·exact old _ (h0.prf.lt (.inr (.inr (.inl rfl))))
 ·exact h.vis b hb
theorem SaysCur.hst (h : SaysCur w0 H w k p c1 c2 c3 c4 c5 ma mb L G S F FP sl l t sl1 M B) (h0 : SaysAt w0 k p c1 c2 c3 c4 c5 ma mb L G S F FP sl l B0) (hs : Hst w0 H w H' w') : SaysCur w0 H' w' k p c1 c2 c3 c4 c5 ma mb L G S F FP sl l t sl1 M B := by
 have dj := hs.disj (G := PW ma mb c5 sl1) (fun b hb => ⟨h.st.prf.lt hb, h.nh h0 b hb⟩)
 exact ⟨h.st.ext hs.ext hs.old (fun b hb => .inr (dj b hb)) h0.zc (fun b hb => h0.know.lt hb) (fun b hb => h0.pool.lt hb), h.prf, h.new, h.ext.hst hs, h.own, fun b hb => dj b (.inr (.inr (.inr hb))), hs.here, h.dp, h.cl⟩
theorem SaysCur.step {u r : Int} {ok : Bool} (h : SaysCur w0 H w k p c1 c2 c3 c4 c5 ma mb L G S F FP sl l t sl1 M B) (h0 : SaysAt w0 k p c1 c2 c3 c4 c5 ma mb L G S F FP sl l B0) (hr : SaysRet w k p c1 c2 c3 c4 c5 ma mb L G S F FP sl1 (l ++ M) u r ok w' sl2 M2 B2) (hu : Sp.rank S u < Sp.rank S t) (hsub : Sp.Sub L t u ∨ u ∈ Sp.wkeys S) (hcl : ∀ x, u ∈ Sp.wkeys S → Sp.rank S x ≤ Sp.rank S u → x ∈ Sp.wkeys S) (hdep : Sp.Dep L S t u) :
  Kept H w w' ∧ SaysCur w0 H w' k p c1 c2 c3 c4 c5 ma mb L G S F FP sl l t sl2 (M ++ M2) B2 := by
 have hk : Kept H w w' := hr.ext.kept (fun b hb hx => h.nh h0 b hx hb)
 refine ⟨hk, by rw [← List.append_assoc]; exact hr.st, by rw [← List.append_assoc]; exact hr.prf, fun s hs => ?_, h.ext.trans' hr.ext (fun i hi hb => PW.old h0 h.own i hb hi), fun b hb => ?_, fun b hb hh => ?_, h.hs.again hk, fun s hs => ?_, fun s hs y hy => ?_⟩
 ·rcases List.mem_append.1 hs with hs | hs
  ·exact h.new s hs
  ·obtain ⟨q1, q2⟩ := hr.new s hs
   refine ⟨by omega, ?_⟩
   rcases q2 with q2 | q2
   ·rcases hsub with h1 | h1
    ·exact .inl (h1.trans q2)
    ·exact .inr (hcl _ h1 q1)
   ·exact .inr q2
 ·rcases hr.own b hb with h1 | h1
  ·exact h.own b h1
  ·right; have := h.ext.size; omega
 ·rcases hr.own b hb with h1 | h1
  ·exact h.vis b h1 hh
  ·have := h.hs.lt b hh; omega
 ·rcases List.mem_append.1 hs with hs | hs
  ·exact h.dp s hs
  ·exact .step hdep (hr.dp s hs)
 ·rw [← List.append_assoc]
  rcases List.mem_append.1 hs with hs | hs
  ·rw [List.map_append]; exact List.mem_append_left _ (h.cl s hs y hy)
  ·exact hr.cl s hs y hy
end
end Go.Proofs
end
section
open Go Go.SE
namespace Go.Proofs
section
variable {H : Type} {enc : TypeId × Value → H} {P : Program} {W : World} {base : Nat} {sp : Nat → Bool} {held : Bool}
theorem row_lt {a : Addr} {v : Value} {vs : List Value} (h : Row W a (v :: vs)) : a.block < W.heap.size := by
 have := h 0 (by simp)
 have := World.block_lt_of_cell? W (a.add 0) this
 rwa [add_block] at this
theorem list_of_trod {α : Type} {tS e : TypeId} {sz : Nat} {f : α → List Value} (hS : P.underlying tS = some (.slice e)) (hc : P.cellsOf e = sz) (hf : ∀ a, ∃ v vs, f a = v :: vs) (x0 : α)
  (hel : ∀ (n : Nat) (cs : List Value) (x : DataW H × List MemPlace), DataW.trod enc P W base sp held n e cs = some x → ∃ a, cs = f a) {n : Nat} {c : Value} {x : DataW H × List MemPlace} (h : DataW.trod enc P W base sp held n tS [c] = some x) :
  ∃ s : Sl, ∃ xs : List α, c = s.v ∧ Lst (fun b => b < W.heap.size) W sz s (xs.map f) := by
 cases n with
 | zero => cases h
 | succ n =>
  rcases trod_slice1 hS h with rfl | ⟨a, len, cap, rfl, hle, hcm, hall⟩
  ·exact ⟨Sl.nil, [], rfl, ⟨rfl, fun i hi => by simp at hi⟩⟩
  ·rw [hc] at hall
   have hex : ∀ i, ∃ q : α, i < len → Row W (a.add (i * sz)) (f q) := by
    intro i
    by_cases hi : i < len
    ·obtain ⟨cs, y, h1, h2⟩ := hall i hi
     obtain ⟨q, rfl⟩ := hel n cs y h2
     exact ⟨q, fun _ => (cells_row h1).2⟩
    ·exact ⟨x0, fun h => absurd h hi⟩
   obtain ⟨q, hq⟩ := Classical.axiomOfChoice hex
   refine ⟨⟨some a, len, cap⟩, (List.range len).map q, rfl, ⟨by simp, fun i hi => ?_⟩⟩
   have hi : i < len := by simpa using hi
   have hr := hq i hi
   obtain ⟨v, vs, e⟩ := hf (q i)
   refine ⟨a.add (i * sz), ⟨by omega, by simpa using hi, a, rfl, by simp⟩, ?_, by simpa using hr⟩
   rw [e] at hr; exact row_lt hr
theorem trod_fields {t : TypeId} {fs : Array Field} (ht : P.underlying t = some (.struct fs)) {n : Nat} {cs : List Value} {x : DataW H × List MemPlace} (h : DataW.trod enc P W base sp held n t cs = some x) :
  ∃ m, cs.length = P.cellsOf t ∧ ∀ (i : Nat) (f : Field), fs.toList[i]? = some f → ∃ y, DataW.trod enc P W base sp held m f.type ((cs.drop f.offset).take (P.cellsOf f.type)) = some y := by
 cases n with
 | zero => cases h
 | succ n =>
  rw [DataW.trod_step] at h
  unfold DataW.trodStep at h
  rw [ht] at h
  simp only at h
  split at h
  ·rename_i hl
   cases hm : fs.toList.mapM (fun f => DataW.trod enc P W base sp held n f.type ((cs.drop f.offset).take (P.cellsOf f.type))) with
   | none => rw [hm] at h; cases h
   | some r =>
    refine ⟨n, hl, fun i f hf => ?_⟩
    obtain ⟨b, hb, _⟩ := (mapM_facts hm).2 i f hf
    exact ⟨b, hb⟩
  ·cases h
end
section
variable {H : Type} {enc : TypeId × Value → H} {W : World} {base : Nat} {sp : Nat → Bool} {held : Bool}
end
end Go.Proofs
end
section
open Go Go.SE
namespace Go.Proofs
set_option maxRecDepth 100000 in
theorem op_of_trod {H : Type} {enc : TypeId × Value → H} {W : World} {base : Nat} {sp : Nat → Bool} {held : Bool} {n : Nat} {cs : List Value} {x : DataW H × List MemPlace} (h : DataW.trod enc Try.prog W base sp held n 103 cs = some x) : ∃ s, cs = oprow s := by
 obtain ⟨m, hl, hf⟩ := trod_fields Try.underlying103 h
 rw [show (Try.prog.cellsOf 103) = 5 by kernel_rfl] at hl
 match cs, hl with
 | [c0, c1, c2, c3, c4], _ =>
  obtain ⟨_, h0⟩ := hf 0 _ rfl
  obtain ⟨_, h1⟩ := hf 1 _ rfl
  obtain ⟨_, h2⟩ := hf 2 _ rfl
  obtain ⟨_, h3⟩ := hf 3 _ rfl
  obtain ⟨_, h4⟩ := hf 4 _ rfl
  simp only [show (Try.prog.cellsOf 3) = 1 by kernel_rfl, show (Try.prog.cellsOf 44) = 1 by kernel_rfl, show (Try.prog.cellsOf 9) = 1 by kernel_rfl] at h0 h1 h2 h3 h4
  obtain ⟨m0, rfl⟩ := trod_int1 Try.underlying3 h0
  obtain ⟨m1, rfl⟩ := trod_int1 Try.underlying3 h1
  obtain ⟨m2, rfl⟩ := trod_int1 Try.underlying3 h2
  obtain ⟨m3, rfl⟩ := trod_int1 Try.underlying44 h3
  obtain ⟨m4, rfl⟩ := trod_str1 Try.underlying9 h4
  exact ⟨⟨m0, m1, m2, m3, m4⟩, rfl⟩
set_option maxRecDepth 100000 in
theorem ops_in {H : Type} {enc : TypeId × Value → H} {W : World} {base : Nat} {sp : Nat → Bool} {held : Bool} {n : Nat} {c : Value} {x : DataW H × List MemPlace} (h : DataW.trod enc Try.prog W base sp held n 23 [c] = some x) : ∃ s : Sl, ∃ l : List Sp.Op, c = s.v ∧ Lst (fun b => b < W.heap.size) W 5 s (l.map oprow) :=
 list_of_trod (sz := 5) (f := oprow) Try.underlying23 (by kernel_rfl) (fun a => ⟨_, _, rfl⟩) ⟨0, 0, 0, 0, ⟨#[]⟩⟩ (fun _ _ _ h => op_of_trod h) h
end Go.Proofs
end
