import Derived.Test.YtakogcapgbilaaaPa5
import Derived.Test.YtakogcapgbilaaaPa1
import Derived.Test.YtakogcapgbilaaaPa4
import Derived.Test.YtakogcapgbilaaaPa0
import Derived.Test.YtakogcapgbilaaaPa3
import Derived.ProofKit
import Derived.Carry
import Derived.OpenShut
import Derived.Stop.Joined
section
open Go Go.SE
namespace Go.Sp
def showStep (q : Pool × List Int × List Letter) (t : Tree) : Pool × List Int × List Letter :=
 ((of q.1 t).2.2, q.2.1 ++ [if (of q.1 t).2.1 ≠ 0 then 9999 else (of q.1 t).1], q.2.2 ++ [(refRead (of q.1 t).2.2 (of q.1 t).1).1])
def showAll (ts : List Tree) : Pool × List Int × List Letter := ts.foldl showStep ([], [], [])
theorem make_few (L : Pool) (n : Node) : (make L n).2.2.length ≤ L.length + 1 := by
 rcases make_pool L n with e | ⟨_, e⟩ <;> rw [e] <;> simp
theorem grow_few (t : Tree) : ∀ L, (grow L t).2.2.length ≤ L.length + cnt t := by
 induction t using Tree.ind with
 | h k f t u x ks ih =>
  have : ∀ (ks : List Tree), (∀ i (hi : i < ks.length), ∀ L, (grow L ks[i]).2.2.length ≤ L.length + cnt ks[i]) → ∀ n i L, (growAll n i L ks).2.2.length ≤ L.length + 1 + cntAll ks := by
   intro ks
   induction ks with
   | nil => intro _ n i L; unfold growAll; have := make_few L n; simp only [cntAll]; omega
   | cons t ts iht =>
    intro hh n i L
    have h0 := hh 0 (by simp) L
    simp only [List.getElem_cons_zero] at h0
    unfold growAll
    simp only [cntAll]
    split
    ·simp only; omega
    ·have := iht (fun i hi => hh (i + 1) (by simpa using hi)) (if i = 0 then { n with a := (grow L t).1 } else { n with b := (grow L t).1 }) (i + 1) (grow L t).2.2
     omega
  intro L
  have := this ks ih ⟨k, f, t, u, x, 0, 0⟩ 0 L
  unfold grow
  rw [cnt]; omega
theorem of_few (L : Pool) (t : Tree) : (of L t).2.2.length ≤ L.length + cnt t := by
 have := grow_few t L
 unfold of
 split
 ·simp only; omega
 ·split
  ·simp only; omega
  ·exact this
theorem show_few : ∀ (ts : List Tree) q, (ts.foldl showStep q).1.length ≤ q.1.length + cntAll ts
 | [], q => by simp [cntAll]
 | t :: ts, q => by
  rw [List.foldl_cons]
  have := show_few ts (showStep q t)
  have := of_few q.1 t
  simp only [cntAll]
  unfold showStep at *
  simp only at *
  omega
theorem of_err {L : Pool} {t : Tree} (h : (of L t).2.1 ≠ 0) : (of L t).1 = 0 ∧ (of L t).2.2 = L := by
 unfold of at h ⊢
 split
 ·exact ⟨rfl, rfl⟩
 ·rename_i h1; rw [if_neg h1] at h
  split
  ·exact ⟨rfl, rfl⟩
  ·rename_i h2; rw [if_neg h2] at h; exact absurd rfl h
theorem refRead_frm {L : Pool} (t : Int) : (refRead L t).1 = noLetter ∨ letErr (refRead L t).1 = 0 := by
 unfold refRead
 split
 ·cases h : (readTree (treeOf L t)).2 with
  | false => left; rw [(readTree_no h).1]
  | true => right; exact (readTree_ok (Prod.ext rfl h : readTree (treeOf L t) = ((readTree (treeOf L t)).1, true))).1
 ·exact .inl rfl
theorem frmOk_read {L : Pool} (t : Int) : FrmOk (refRead L t).1 := by
 intro hk
 rcases refRead_frm (L := L) t with h | h
 ·rw [h] at hk; cases hk
 ·generalize (refRead L t).1 = l at *
  obtain ⟨k, f, c, x, g⟩ := l
  exact (letErr_inv h).2.1
theorem refRead_no {L : Pool} {t : Int} (h : inP L t = false) : (refRead L t).1 = noLetter := by unfold refRead; rw [if_neg (by simp [h])]
structure ShowOk (q : Pool × List Int × List Letter) : Prop where
 wf : Wf q.1
 len : q.2.1.length = q.2.2.length
 each : q.2.2 = q.2.1.map fun t => (read q.1 t).1
 ids : ∀ t ∈ q.2.1, t = 9999 ∨ inP q.1 t = true
 frm : ∀ l ∈ q.2.2, FrmOk l
theorem notIn {L : Pool} (h : L.length ≤ 9998) : inP L 9999 = false := by
 cases hi : inP L 9999 with
 | false => rfl
 | true => have := (inP_iff.1 hi).2; omega
theorem ShowOk.step {q : Pool × List Int × List Letter} (h : ShowOk q) (t : Tree) (hf : (of q.1 t).2.2.length ≤ 9998) : ShowOk (showStep q t) := by
 have hf0 : q.1.length ≤ 9998 := by
  obtain ⟨M, hM⟩ := of_grows h.wf.ok t
  rw [hM, List.length_append] at hf; omega
 obtain ⟨M, hM⟩ := of_grows h.wf.ok t
 have hW := of_wf h.wf t
 have old : q.2.2 = q.2.1.map fun t' => (read (of q.1 t).2.2 t').1 := by
  rw [h.each]
  refine List.map_congr_left (fun x hx => ?_)
  rcases h.ids x hx with rfl | hi
  ·rw [read_out (notIn hf0), read_out (notIn hf)]
  ·rw [hM] at hW ⊢; rw [read_app hW hi]
 have new : (refRead (of q.1 t).2.2 (of q.1 t).1).1 = (read (of q.1 t).2.2 (if (of q.1 t).2.1 ≠ 0 then 9999 else (of q.1 t).1)).1 := by
  split
  ·rename_i he
   have h0 := (of_err he).1
   rw [read_out (notIn hf), h0, refRead_no]
   cases hi : inP (of q.1 t).2.2 0 with
   | false => rfl
   | true => have := (inP_iff.1 hi).1; omega
  ·rw [read_ref hW]
 refine ⟨hW, by simp [showStep, h.len], ?_, ?_, ?_⟩
 ·simp only [showStep, List.map_append, List.map_cons, List.map_nil]
  rw [← old, new]
 ·intro x hx
  simp only [showStep, List.mem_append, List.mem_singleton] at hx
  rcases hx with hx | rfl
  ·rcases h.ids x hx with h1 | h1
   ·exact .inl h1
   ·right; show inP (of q.1 t).2.2 x = true; rw [hM]; exact inP_app h1
  ·split
   ·exact .inl rfl
   ·rename_i he; exact .inr (of_tree h.wf (by simpa using he)).1
 ·intro l hl
  simp only [showStep, List.mem_append, List.mem_singleton] at hl
  rcases hl with hl | rfl
  ·exact h.frm l hl
  ·exact frmOk_read _
theorem showAll_ok (ts : List Tree) (h : cntAll ts ≤ 6000) : ShowOk (showAll ts) ∧ (showAll ts).1.length ≤ 6000 := by
 have : ∀ (ts : List Tree) q, q.1.length + cntAll ts ≤ 6000 → ShowOk q → ShowOk (ts.foldl showStep q) := by
  intro ts
  induction ts with
  | nil => intro q _ h; exact h
  | cons t ts ih =>
   intro q hl h
   simp only [cntAll] at hl
   have := of_few q.1 t
   exact ih _ (by unfold showStep; simp only; omega) (h.step t (by omega))
 exact ⟨this ts _ (by simp; omega) ⟨Wf.nil, rfl, rfl, by simp, by simp⟩, by have := show_few ts ([], [], []); unfold showAll; simp at this; omega⟩
theorem showAll_wf (ts : List Tree) : Wf (showAll ts).1 ∧ (showAll ts).2.1.length = (showAll ts).2.2.length := by
 have : ∀ (ts : List Tree) q, Wf q.1 ∧ q.2.1.length = q.2.2.length → Wf (ts.foldl showStep q).1 ∧ (ts.foldl showStep q).2.1.length = (ts.foldl showStep q).2.2.length := by
  intro ts
  induction ts with
  | nil => intro q h; exact h
  | cons t ts ih => intro q h; exact ih _ ⟨of_wf h.1 t, by simp [showStep, h.2]⟩
 exact this ts _ ⟨Wf.nil, rfl⟩
theorem show_len (ts : List Tree) : ∀ q, (ts.foldl showStep q).2.1.length = q.2.1.length + ts.length := by
 induction ts with
 | nil => intro q; simp
 | cons t ts ih => intro q; rw [List.foldl_cons, ih]; simp [showStep]; omega
end Go.Sp
namespace Go.Proofs
attribute [local irreducible] Calls
theorem slT_term : SlType Try.prog 26 41 1 8 := by
 refine ⟨Try.underlying26, ⟨Try.t41, _, by kernel_rfl, (by kernel_rfl : Try.t41.zero = some (.int .i64 0)), by kernel_rfl, by kernel_rfl, rfl⟩, by omega⟩
structure Show4 (w0 : World) (H : Nat → Prop) (w : World) (p1 p2 : Addr) (L1 L2 : Sp.Pool) (t l : Sl) (ids : List Int) (ls : List Sp.Letter) (F1 F2 : Nat → Prop) : Prop where
 pure : Pure w0 w
 pool1 : PoolAt w p1 L1 F1
 pool2 : PoolR w p2 L2 F2
 ts : Rws w 41 1 t (trows ids)
 ls : Rws w 132 5 l (ls.map lrow)
 o1 : ∀ b, F1 b → w0.heap.size ≤ b ∧ ¬ H b ∧ ¬ F2 b ∧ ¬ t.blk b ∧ ¬ l.blk b
 o2 : ∀ b, F2 b → w0.heap.size ≤ b ∧ ¬ H b ∧ ¬ t.blk b ∧ ¬ l.blk b
 o3 : ∀ b, t.blk b → w0.heap.size ≤ b ∧ ¬ H b ∧ ¬ l.blk b
 o4 : ∀ b, l.blk b → w0.heap.size ≤ b ∧ ¬ H b
section
variable {w0 w w' : World} {H H' : Nat → Prop} {p1 p2 : Addr} {L1 L2 : Sp.Pool} {t l : Sl} {ids : List Int} {ls : List Sp.Letter} {F1 F2 : Nat → Prop}
theorem Show4.pureE (h : Show4 w0 H w p1 p2 L1 L2 t l ids ls F1 F2) (E : Pure w w') : Show4 w0 H w' p1 p2 L1 L2 t l ids ls F1 F2 :=
 ⟨h.pure.trans E, h.pool1.pure E, h.pool2.pure E, h.ts.pure E, h.ls.pure E, h.o1, h.o2, h.o3, h.o4⟩
theorem Show4.hst (h : Show4 w0 H w p1 p2 L1 L2 t l ids ls F1 F2) (hs : Hst w0 H w H' w') : Show4 w0 H' w' p1 p2 L1 L2 t l ids ls F1 F2 := by
 have d : ∀ b, b < w.heap.size → ¬ H b → ¬ H' b := fun b h1 h2 => hs.disj (G := (· = b)) (fun c e => by subst e; exact ⟨h1, h2⟩) b rfl
 have d1 : ∀ b, F1 b → ¬ H' b := fun b hb => d b (h.pool1.lt hb) (h.o1 b hb).2.1
 have d2 : ∀ b, F2 b → ¬ H' b := fun b hb => d b (h.pool2.lt hb) (h.o2 b hb).2.1
 have d3 : ∀ b, t.blk b → ¬ H' b := fun b hb => d b (h.ts.lt hb) (h.o3 b hb).2.1
 have d4 : ∀ b, l.blk b → ¬ H' b := fun b hb => d b (h.ls.lt hb) (h.o4 b hb).2
 exact ⟨h.pure.hst hs, h.pool1.ext hs.ext d1, h.pool2.ext hs.ext d2, h.ts.ext hs.ext d3, h.ls.ext hs.ext d4, fun b hb => ⟨(h.o1 b hb).1, d1 b hb, (h.o1 b hb).2.2⟩, fun b hb => ⟨(h.o2 b hb).1, d2 b hb, (h.o2 b hb).2.2⟩, fun b hb => ⟨(h.o3 b hb).1, d3 b hb, (h.o3 b hb).2.2⟩, fun b hb => ⟨(h.o4 b hb).1, d4 b hb⟩⟩
theorem Show4.of1 (h : Show4 w0 H w p1 p2 L1 L2 t l ids ls F1 F2) (hH : ∀ b, H b → b < w.heap.size) {L : Sp.Pool} {F : Nat → Prop} (hP : PoolAt w' p1 L F) (hE : Ext F1 w w') (hF : ∀ b, F b → F1 b ∨ w.heap.size ≤ b) : Show4 w0 H w' p1 p2 L L2 t l ids ls F F2 := by
 refine ⟨h.pure.trans' hE (fun i hi hb => by have := (h.o1 i hb).1; omega), hP, h.pool2.ext hE (fun b hb h1 => (h.o1 b h1).2.2.1 hb), h.ts.ext hE (fun b hb h1 => (h.o1 b h1).2.2.2.1 hb), h.ls.ext hE (fun b hb h1 => (h.o1 b h1).2.2.2.2 hb), fun b hb => ?_, h.o2, h.o3, h.o4⟩
 rcases hF b hb with h1 | h1
 ·exact h.o1 b h1
 ·exact ⟨by have := h.pure.size; omega, fun hh => by have := hH b hh; omega, fun hh => by have := h.pool2.lt hh; omega, fun hh => by have := h.ts.lt hh; omega, fun hh => by have := h.ls.lt hh; omega⟩
theorem Show4.of2 (h : Show4 w0 H w p1 p2 L1 L2 t l ids ls F1 F2) (hH : ∀ b, H b → b < w.heap.size) {L : Sp.Pool} {F : Nat → Prop} (hP : PoolR w' p2 L F) (hE : Ext F2 w w') (hF : ∀ b, F b → F2 b ∨ w.heap.size ≤ b) : Show4 w0 H w' p1 p2 L1 L t l ids ls F1 F := by
 refine ⟨h.pure.trans' hE (fun i hi hb => by have := (h.o2 i hb).1; omega), h.pool1.ext hE (fun b hb h1 => (h.o1 b hb).2.2.1 h1), hP, h.ts.ext hE (fun b hb h1 => (h.o2 b h1).2.2.1 hb), h.ls.ext hE (fun b hb h1 => (h.o2 b h1).2.2.2 hb), fun b hb => ?_, fun b hb => ?_, h.o3, h.o4⟩
 ·refine ⟨(h.o1 b hb).1, (h.o1 b hb).2.1, fun hh => ?_, (h.o1 b hb).2.2.2⟩
  rcases hF b hh with h1 | h1
  ·exact (h.o1 b hb).2.2.1 h1
  ·have := h.pool1.lt hb; omega
 ·rcases hF b hb with h1 | h1
  ·exact h.o2 b h1
  ·exact ⟨by have := h.pure.size; omega, fun hh => by have := hH b hh; omega, fun hh => by have := h.ts.lt hh; omega, fun hh => by have := h.ls.lt hh; omega⟩
theorem Show4.of3 (h : Show4 w0 H w p1 p2 L1 L2 t l ids ls F1 F2) (hH : ∀ b, H b → b < w.heap.size) {t' : Sl} {ids' : List Int} (hP : Rws w' 41 1 t' (trows ids')) (hE : Ext t.blk w w') (hF : ∀ b, t'.blk b → t.blk b ∨ w.heap.size ≤ b) : Show4 w0 H w' p1 p2 L1 L2 t' l ids' ls F1 F2 := by
 refine ⟨h.pure.trans' hE (fun i hi hb => by have := (h.o3 i hb).1; omega), h.pool1.ext hE (fun b hb h1 => (h.o1 b hb).2.2.2.1 h1), h.pool2.ext hE (fun b hb h1 => (h.o2 b hb).2.2.1 h1), hP, h.ls.ext hE (fun b hb h1 => (h.o3 b h1).2.2 hb), fun b hb => ?_, fun b hb => ?_, fun b hb => ?_, h.o4⟩
 ·refine ⟨(h.o1 b hb).1, (h.o1 b hb).2.1, (h.o1 b hb).2.2.1, fun hh => ?_, (h.o1 b hb).2.2.2.2⟩
  rcases hF b hh with h1 | h1
  ·exact (h.o1 b hb).2.2.2.1 h1
  ·have := h.pool1.lt hb; omega
 ·refine ⟨(h.o2 b hb).1, (h.o2 b hb).2.1, fun hh => ?_, (h.o2 b hb).2.2.2⟩
  rcases hF b hh with h1 | h1
  ·exact (h.o2 b hb).2.2.1 h1
  ·have := h.pool2.lt hb; omega
 ·rcases hF b hb with h1 | h1
  ·exact h.o3 b h1
  ·exact ⟨by have := h.pure.size; omega, fun hh => by have := hH b hh; omega, fun hh => by have := h.ls.lt hh; omega⟩
theorem Show4.of4 (h : Show4 w0 H w p1 p2 L1 L2 t l ids ls F1 F2) (hH : ∀ b, H b → b < w.heap.size) {l' : Sl} {ls' : List Sp.Letter} (hP : Rws w' 132 5 l' (ls'.map lrow)) (hE : Ext l.blk w w') (hF : ∀ b, l'.blk b → l.blk b ∨ w.heap.size ≤ b) : Show4 w0 H w' p1 p2 L1 L2 t l' ids ls' F1 F2 := by
 refine ⟨h.pure.trans' hE (fun i hi hb => by have := (h.o4 i hb).1; omega), h.pool1.ext hE (fun b hb h1 => (h.o1 b hb).2.2.2.2 h1), h.pool2.ext hE (fun b hb h1 => (h.o2 b hb).2.2.2 h1), h.ts.ext hE (fun b hb h1 => (h.o3 b hb).2.2 h1), hP, fun b hb => ?_, fun b hb => ?_, fun b hb => ?_, fun b hb => ?_⟩
 ·refine ⟨(h.o1 b hb).1, (h.o1 b hb).2.1, (h.o1 b hb).2.2.1, (h.o1 b hb).2.2.2.1, fun hh => ?_⟩
  rcases hF b hh with h1 | h1
  ·exact (h.o1 b hb).2.2.2.2 h1
  ·have := h.pool1.lt hb; omega
 ·refine ⟨(h.o2 b hb).1, (h.o2 b hb).2.1, (h.o2 b hb).2.2.1, fun hh => ?_⟩
  rcases hF b hh with h1 | h1
  ·exact (h.o2 b hb).2.2.2 h1
  ·have := h.pool2.lt hb; omega
 ·refine ⟨(h.o3 b hb).1, (h.o3 b hb).2.1, fun hh => ?_⟩
  rcases hF b hh with h1 | h1
  ·exact (h.o3 b hb).2.2 h1
  ·have := h.ts.lt hb; omega
 ·rcases hF b hb with h1 | h1
  ·exact h.o4 b h1
  ·exact ⟨by have := h.pure.size; omega, fun hh => by have := hH b hh; omega⟩
end
theorem c_law13_shown {S : Nat → Prop} (ts : List Sp.Tree) (s : Sl) (w0 : World) (hT : TreeAt S w0 s (.mk 0 0 0 0 ⟨#[]⟩ ts)) (hS : ∀ b, S b → b < w0.heap.size) (hn : ts.length ≤ 80) (hc : Sp.cntAll ts ≤ 12000) :
  Calls Try.prog 17 #[s.v] w0 (fun e w' => ∃ r1 : Option Addr, ∃ r2 : Sl, ∃ r3 : Sl, e = .returned (.tuple #[.pointer r1, r2.v, r3.v]) ∧ ∃ p1 p2 F1 F2, r1 = some p1 ∧ Show4 w0 None w' p1 p2 (Sp.showAll ts).1 (Sp.showAll ts).1 r2 r3 (Sp.showAll ts).2.1 (Sp.showAll ts).2.2 F1 F2) := by
 suffices key : ∀ K : Option Addr → Sl → Sl → World → Prop, (∀ p1 p2 F1 F2 H r2 r3 w', Show4 w0 H w' p1 p2 (Sp.showAll ts).1 (Sp.showAll ts).1 r2 r3 (Sp.showAll ts).2.1 (Sp.showAll ts).2.2 F1 F2 → K (some p1) r2 r3 w') → m_law13_shown s w0 K from
  w_law13_shown _ w0 _ (key _ (fun p1 p2 F1 F2 H r2 r3 w' h => ⟨p1, p2, F1, F2, rfl, h.pure, h.pool1, h.pool2, h.ts, h.ls, fun b hb => ⟨(h.o1 b hb).1, id, (h.o1 b hb).2.2⟩, fun b hb => ⟨(h.o2 b hb).1, id, (h.o2 b hb).2.2⟩, fun b hb => ⟨(h.o3 b hb).1, id, (h.o3 b hb).2.2⟩, fun b hb => ⟨(h.o4 b hb).1, id⟩⟩))
 intro K hK
 have hnil : ∀ b, Sl.nil.blk b → False := fun b hb => by obtain ⟨a, h, _⟩ := hb; cases h
 cases hT with
 | mk _ _ _ _ _ _ _ rs len fit row kid =>
 unfold m_law13_shown
 refine (c_New w0).mono ?_
 rintro _ w1 ⟨_, rfl, p1, rfl, E1, F1, hP1, hF1⟩
 refine ⟨_, rfl, E1.keptP, ?_⟩
 refine (c_ref05_New w1).mono ?_
 rintro _ w2 ⟨_, rfl, p2, F2, rfl, hP2, E2, hF2⟩
 refine ⟨_, rfl, E2.keptP, Br.f rfl ?_⟩
 have S0 : Show4 w0 None w2 p1 p2 [] [] Sl.nil Sl.nil [] [] F1 F2 := ⟨E1.trans E2, hP1.pure E2, hP2, Rws.nil _ _ _, Rws.nil _ _ _,
  fun b hb => ⟨hF1 b hb, id, fun h2 => by have := hF2 b h2; have := hP1.lt hb; omega, hnil b, hnil b⟩, fun b hb => ⟨by have := hF2 b hb; have := E1.size; omega, id, hnil b, hnil b⟩, fun b hb => (hnil b hb).elim, fun b hb => (hnil b hb).elim⟩
 refine ⟨fun t l i H w' => ∃ j : Nat, i = j ∧ j ≤ ts.length ∧ ∃ F1 F2, Show4 w0 H w' p1 p2 (Sp.showAll (ts.take j)).1 (Sp.showAll (ts.take j)).1 t l (Sp.showAll (ts.take j)).2.1 (Sp.showAll (ts.take j)).2.2 F1 F2, fun _ _ i _ => ((ts.length : Int) - i).toNat, ⟨0, rfl, Nat.zero_le _, F1, F2, S0⟩, ?_⟩
 rintro t l _ Hl wl hl ⟨j, rfl, hj, F1, F2, hq⟩
 unfold m_law13_shown_l1
 refine ⟨fun h => ?_, fun h => ?_⟩
 ·have hlt := lt_of_dec len h
  have htk : ts.take (j + 1) = ts.take j ++ [ts[j]] := List.take_succ_eq_append_getElem hlt
  have hok := Sp.showAll_wf (ts.take j)
  have hstep : Sp.showAll (ts.take (j + 1)) = Sp.showStep (Sp.showAll (ts.take j)) ts[j] := by rw [htk]; unfold Sp.showAll; rw [List.foldl_append]; rfl
  have hlens : (Sp.showAll (ts.take j)).2.1.length = j := by
   have := Sp.show_len (ts.take j) ([], [], [])
   rw [List.length_take, Nat.min_eq_left (by omega)] at this
   simpa [Sp.showAll] using this
  generalize Sp.showAll (ts.take j) = q at *
  obtain ⟨a, hat, hSa, hrow⟩ := row j hlt
  have hkid := kid j hlt
  have hcj : Sp.cnt ts[j] ≤ 12000 := by have := Sp.cntAll_get hlt; omega
  generalize ts[j] = x at *
  generalize rs j = sx at *
  obtain ⟨xk, xf, xt, xu, xx, xks⟩ := x
  have hrl : Row wl a (trow (.mk xk xf xt xu xx xks) sx) := hq.pure.row hrow (fun h => h)
  refine ⟨a, hat, _, _, _, _, _, sx, hrl, ?_⟩
  refine (c_ref05_Lent (.mk xk xf xt xu xx xks) sx wl (by omega) (hkid.pure hq.pure) (fun b hb => by have := hS b hb; have := hq.pure.size; omega)).mono ?_
  rintro _ w3 ⟨s3, rfl, hT3, E3⟩
  refine ⟨_, _, _, _, _, s3, rfl, E3.keptP, ?_⟩
  have hq3 := hq.pureE E3
  have hl3 := hl.again E3.keptP
  refine (c_Of (S := fun b => wl.heap.size ≤ b ∧ b < w3.heap.size) p1 (.mk xk xf xt xu xx xks) s3 w3 hT3.lt hq3.pool1 hok.1.ok (fun b hb hh => by have := hq.pool1.lt hb; omega) (fun b hb => hb.2)).mono ?_
  rintro _ w4 ⟨r3, r4, rfl, h34, F1', hP4, E4, hF4⟩
  have k4 : Kept Hl w3 w4 := E4.kept (fun b hb h1 => (hq3.o1 b h1).2.1 hb)
  refine ⟨_, _, rfl, k4, ?_⟩
  have hq4 := hq3.of1 (fun b hb => hl3.lt b hb) hP4 E4 hF4
  have hl4 := hl3.again k4
  have hr4 : Row w4 a (trow (.mk xk xf xt xu xx xks) sx) := hq4.pure.row hrow (fun h => h)
  refine ⟨a, hat, _, _, _, _, _, sx, hr4, ?_⟩
  refine (c_ref05_Of (S := S) p2 (.mk xk xf xt xu xx xks) sx w4 (hkid.pure hq4.pure) hq4.pool2 hok.1.ok (fun b hb hh => by have := (hq4.o2 b hb).1; have := hS b hh; omega) (fun b hb => by have := hS b hb; have := hq4.pure.size; omega)).mono ?_
  rintro _ w5 ⟨r5, r6, rfl, h56, F2', hP5, E5, hF5⟩
  have k5 : Kept Hl w4 w5 := E5.kept (fun b hb h1 => (hq4.o2 b h1).2.1 hb)
  refine ⟨_, _, rfl, k5, ?_⟩
  have hq5 := hq4.of2 (fun b hb => hl4.lt b hb) hP5 E5 hF5
  have hl5 := hl4.again k5
  intro H1 w6 hs6
  have hq6 := hq5.hst hs6
  intro pa w7 h7
  have E7 : Pure w6 w7 := Ext.new h7
  have hq7 := hq6.pureE E7
  have hs7 := hs6.here.again E7.keptP
  obtain ⟨s1, w8, hr8, hR8, E8, hb8⟩ := hq7.ts.append (P := Try.prog) (ty := 26) (c := 1) slT_term (r := [.int .i64 (cond (r4 != 0) 9999 r3)]) (Box.of_new h7).row rfl rfl (by simp [trows]; omega) (by simp [trows, maxLen]; omega)
  have k8 : Kept H1 w7 w8 := E8.kept (fun b hb h1 => (hq7.o3 b h1).2.1 hb)
  refine ⟨s1, w8, hr8, k8, ?_⟩
  have hq8 := hq7.of3 (fun b hb => hs7.lt b hb) (ids' := q.2.1 ++ [cond (r4 != 0) 9999 r3]) (by simpa [trows] using hR8) E8 hb8
  have hs8 := hs7.again k8
  have hW : Sp.Wf (Sp.of q.1 (.mk xk xf xt xu xx xks)).2.2 := Sp.of_wf hok.1 _
  refine (c_ref11_Read p2 hW r5 w8 F2' hq8.pool2).mono ?_
  rintro _ w9 ⟨rk, rf, rc, rx, rg, r7, rfl, hrd, E9⟩
  refine ⟨_, _, _, _, _, _, rfl, E9.keptP, ?_⟩
  have hq9 := hq8.pureE E9
  have hs9 := hs8.again E9.keptP
  intro H2 w11 hs11
  have hq11 := hq9.hst hs11
  intro p3 w12 h12
  have E12 : Pure w11 w12 := Ext.new h12
  have hq12 := hq11.pureE E12
  have hs12 := hs11.here.again E12.keptP
  obtain ⟨s2, w13, hr13, hR13, E13, hb13⟩ := hq12.ls.append (P := Try.prog) (ty := 27) (c := 1) slT_letter (r := lrow ⟨rk, rf, rc, rx, rg⟩) (Box.of_new h12).row rfl rfl (by simp; have := hok.2; omega) (by simp [maxLen]; have := hok.2; omega)
  have k13 : Kept H2 w12 w13 := E13.kept (fun b hb h1 => (hq12.o4 b h1).2 hb)
  refine ⟨s2, w13, hr13, k13, ?_⟩
  have hq13 := hq12.of4 (fun b hb => hs12.lt b hb) (ls' := q.2.2 ++ [⟨rk, rf, rc, rx, rg⟩]) (by simpa using hR13) E13 hb13
  rw [wrap_succ hlt (by omega)]
  refine ⟨⟨j + 1, rfl, hlt, F1', F2', ?_⟩, lt_dec hlt⟩
  rw [hstep]
  injection h34 with e3 e4
  injection h56 with e5 e6
  have eid : (cond (r4 != 0) 9999 r3) = (if (Sp.of q.1 (.mk xk xf xt xu xx xks)).2.1 ≠ 0 then 9999 else (Sp.of q.1 (.mk xk xf xt xu xx xks)).1) := by
   rw [← e3, ← e4]
   by_cases h0 : r4 = 0
   ·subst h0; rfl
   ·rw [if_pos h0, bne_iff_ne.2 h0]; rfl
  have elt : (⟨rk, rf, rc, rx, rg⟩ : Sp.Letter) = (Sp.refRead (Sp.of q.1 (.mk xk xf xt xu xx xks)).2.2 (Sp.of q.1 (.mk xk xf xt xu xx xks)).1).1 := by
   rw [← e5, ← hrd]
  rw [eid, elt] at hq13
  exact hq13
 ·have hge := eq_of_dec len hj h
  subst hge
  rw [List.take_length] at hq
  exact hK _ _ _ _ _ _ _ _ hq
end Go.Proofs
end
section
open Go Go.SE
namespace Go.SE
section
variable {P : Program} {t e : TypeId} {sz bytes : Nat}
theorem run_append_none (T : SlType P t e sz bytes) (w : World) (ty : TypeId) (s x : Sl) (hc : s.len ≤ s.cap) (hx : x.len = 0) : (Builtin.append_ #[t, t] ty #[s.v, x.v]).run P w = .ok s.v w := by
 obtain ⟨a, n, c⟩ := s
 obtain ⟨b, m, d⟩ := x
 simp only at hc hx
 subst hx
 cases b <;> cases a <;> simp [Builtin.append_, Sl.v, run_underlying T.ht, T.sizeOf, Builtin.lenOf, Builtin.firstCells, loadCells, loadCellsFrom, storeCells, hc]
theorem Rws.copied (T : SlType P t e sz bytes) {w : World} {ty : TypeId} {s : Sl} {rs : List (List Value)} (h : Rws w e sz s rs) {p : Addr} {w' : World} (hn : New w (.cells #[] e) p w') (h1 : ∀ q ∈ rs, q.all oneCell = true) (hb : rs.length * bytes ≤ 140737488355328) (hm : rs.length ≤ maxLen) :
  ∃ s' w2, (Builtin.append_ #[t, t] ty #[(Sl.mk (some p) 0 0).v, s.v]).run P w' = .ok s'.v w2 ∧ Rws w2 e sz s' rs ∧ Pure w w2 ∧ (∀ b, s'.blk b → w.heap.size ≤ b) ∧ w'.heap.size ≤ w2.heap.size := by
 have E : Pure w w' := Ext.new hn
 obtain ⟨hp, hw⟩ := hn
 have hR0 : Rws w' e sz ⟨some p, 0, 0⟩ [] := by
  refine ⟨by simp, rfl, .inr ⟨w.heap.size, #[], by rw [hp], ?_, by simp, by simp, by simp, by simp⟩⟩
  rw [hw]; exact heap_alloc_new w (.cells #[] e)
 have hpb : ∀ b, (Sl.mk (some p) 0 0).blk b → w.heap.size ≤ b := by rintro b ⟨a, ha, rfl⟩; cases ha; rw [hp]; exact Nat.le_refl _
 cases hrs : rs with
 | nil =>
  subst hrs
  exact ⟨_, w', run_append_none T w' ty _ s (by simp) h.len, hR0, E, hpb, Nat.le_refl _⟩
 | cons r rest =>
  rw [← hrs]
  have hne : rs ≠ [] := by rw [hrs]; simp
  rcases h.own with ⟨_, h0⟩ | ⟨g, cur, ha, hg, hcap, hcm, hcs, htake⟩
  ·exact absurd h0 hne
  ·have hrow : Row w' ⟨g, 0, none⟩ rs.flatten := by
    refine E.row (fun j hj => ?_) (fun h => h)
    have hadd : (⟨g, 0, none⟩ : Addr).add j = ⟨g, j, none⟩ := by unfold Addr.add; split <;> simp_all
    rw [hadd, cell_of_row w g j cur e (0, 0) hg]
    have hfl := flatten_len h.each
    rw [← htake, List.getElem?_take, if_pos (by rw [← hfl]; exact hj)]
    simp
   have hsv : s.v = (Sl.mk (some ⟨g, 0, none⟩) rs.length s.cap).v := by unfold Sl.v; rw [ha, h.len]
   obtain ⟨s', w2, hr, hR, hE, hb'⟩ := hR0.appends (ty := ty) (c := s.cap) T hrow h.each h1 hne (by simpa using hb) (by simpa using hm)
   rw [hsv]
   exact ⟨s', w2, hr, by simpa using hR, E.trans' hE (fun i hi hbk => by have := hpb i hbk; omega), fun b hb => (hb' b hb).elim (hpb b) (fun h => by have := E.size; omega), hE.size⟩
end
end Go.SE
end
section
open Go Go.SE
namespace Go.Sp
def wt : ByteArray := ⟨#[116]⟩
def wu : ByteArray := ⟨#[117]⟩
def lvA : Tree := letterT ⟨2, 1, 7, wt, false⟩ false false
def lvB : Tree := letterT ⟨1, 1, 7, wt, false⟩ false false
def lvC : Tree := letterT ⟨2, 1, 7, wu, false⟩ false false
def lv1 : Pool := (of [] lvA).2.2
def lv2 : Pool := (of lv1 lvB).2.2
def lv3 : Pool := (of lv2 lvC).2.2
theorem lv_a : (of [] lvA).1 = 6 ∧ (of [] lvA).2.1 = 0 := by constructor <;> kernel_rfl
theorem lv_b : (of lv1 lvB).1 = 7 ∧ (of lv1 lvB).2.1 = 0 := by constructor <;> kernel_rfl
theorem lv_c : (of lv2 lvC).1 = 11 ∧ (of lv2 lvC).2.1 = 0 := by constructor <;> kernel_rfl
theorem lv_x : judgeFrom 1 7 wt 0 (Go.Proofs.readAll lv3 [7, 6]) = (true, 1, 1) := by kernel_rfl
theorem lv_y : judgeFrom 1 7 wt 0 (Go.Proofs.readAll lv3 [7]) = (false, 0, -1) := by kernel_rfl
theorem lv_l : faults (Go.Proofs.readAll lv3 [6, 7, 11]) = [⟨1, 7, 1, 0, 2⟩] := by kernel_rfl
end Go.Sp
end
section
open Go Go.SE
namespace Go.Proofs
attribute [local irreducible] Calls
theorem lv_step (p : Addr) (k f c : Int) (x : ByteArray) (hf : f = 0 ∨ f = 1) (w : World) {L : Sp.Pool} {F : Nat → Prop} (hP : PoolAt w p L F) (hok : Sp.Ok L) {Q : Int → Int → World → Prop}
  (hQ : ∀ w', (∃ F', PoolAt w' p (Sp.of L (Sp.letterT ⟨k, f, c, x, false⟩ false false)).2.2 F' ∧ Ext F w w' ∧ ∀ b, F' b → F b ∨ w.heap.size ≤ b) → Q (Sp.of L (Sp.letterT ⟨k, f, c, x, false⟩ false false)).1 (Sp.of L (Sp.letterT ⟨k, f, c, x, false⟩ false false)).2.1 w') :
  Calls Try.prog 74 #[.agg #[.int .i64 k, .int .i64 f, .int .u64 c, .string x, .bool false], .bool false, .bool false] w (fun e w2 => ∃ rKind1 : Int, ∃ rFrom1 : Int, ∃ rTo1 : Int, ∃ rNum1 : Int, ∃ rText1 : ByteArray, ∃ rKids1 : Sl, e = .returned (.agg #[(.int .i64 rKind1), (.int .i64 rFrom1), (.int .i64 rTo1), (.int .u64 rNum1), (.string rText1), rKids1.v]) ∧
   Kept None w w2 ∧
   Calls Try.prog 73 #[.pointer (some p), (.agg #[(.int .i64 rKind1), (.int .i64 rFrom1), (.int .i64 rTo1), (.int .u64 rNum1), (.string rText1), rKids1.v])] w2 (fun e w3 => ∃ r2 : Int, ∃ r3 : Int, e = .returned (.tuple #[(.int .i64 r2), (.int .i64 r3)]) ∧ Kept None w2 w3 ∧ Q r2 r3 w3)) := by
 refine (c_ref11_Tree w.heap.size k f c x false false false w (Nat.le_refl _) hf).mono ?_
 rintro _ w2 ⟨s, rfl, hT, E2⟩
 refine ⟨_, _, _, _, _, s, rfl, E2.keptP, ?_⟩
 refine (c_Of p _ s w2 hT.lt (hP.pure E2) hok (fun b hb h => by have := hP.lt hb; have : w.heap.size ≤ b := h.1; omega) (fun b h => h.2)).mono ?_
 rintro _ w3 ⟨r1, r2, rfl, hr, F', hP', E3, hF'⟩
 have e1 : r1 = _ := congrArg Prod.fst hr
 have e2 : r2 = _ := congrArg Prod.snd hr
 refine ⟨_, _, rfl, E3.kept (fun b h => h.elim), ?_⟩
 rw [e1, e2]
 exact hQ w3 ⟨F', hP', E2.pure.trans E3, fun b hb => (hF' b hb).imp_right (fun h => by have := E2.size; omega)⟩
theorem Lst.of_ints {w : World} {p : Addr} {T : TypeId} (ts : List Int) (h : Box w p (ts.map fun t => .int .i64 t) T) : Lst (· = p.block) w 1 ⟨some p, ts.length, ts.length⟩ (trows ts) := by
 refine ⟨by simp [trows], fun i hi => ?_⟩
 have hi' : i < ts.length := by simpa [trows] using hi
 refine ⟨p.add (i * 1), ⟨by omega, by simpa using hi', p, rfl, by simp⟩, by rw [add_block], fun j hj => ?_⟩
 have hj0 : j = 0 := by simpa [trows] using hj
 subst hj0
 have := h.cell (i := i) (v := .int .i64 ts[i]) (by simp [hi'])
 rw [add_add, Nat.mul_one, Nat.add_zero, this]
 simp [trows]
theorem c_live13 (w0 : World) : Calls Try.prog 16 #[] w0 (fun e w' => ∃ r : Bool, e = .returned (.bool r) ∧ (r = true ∧ Pure w0 w')) := by
 refine w_law13_live w0 (fun r w' => r = true ∧ Pure w0 w') ?_
 unfold m_law13_live
 refine (c_New w0).mono ?_
 rintro _ w1 ⟨_, rfl, p, rfl, E1, F1, hP1, hF1⟩
 refine ⟨_, rfl, E1.keptP, Br.f rfl ?_⟩
 refine lv_step p 2 1 7 Sp.wt (.inr rfl) w1 hP1 Sp.Ok.nil ?_
 rintro w3 ⟨F3, hP3, E3, hF3⟩
 have ok1 := Sp.of_ok Sp.Ok.nil Sp.lvA
 refine lv_step p 1 1 7 Sp.wt (.inr rfl) w3 hP3 ok1 ?_
 rintro w5 ⟨F5, hP5, E5, hF5⟩
 have ok2 := Sp.of_ok ok1 Sp.lvB
 refine lv_step p 2 1 7 Sp.wu (.inr rfl) w5 hP5 ok2 ?_
 rintro w7 ⟨F7, hP7, E7, hF7⟩
 have ok3 := Sp.of_ok ok2 Sp.lvC
 have hP : PoolAt w7 p Sp.lv3 F7 := hP7
 have s1 := E1.size
 have s3 := E3.size
 have s5 := E5.size
 have E : Pure w0 w7 := ((E1.trans' E3 (fun i hi h => by have := hF1 i h; omega)).trans' E5 (fun i hi h => (hF3 i h).elim (fun h => by have := hF1 i h; omega) (fun h => by omega))).trans' E7 (fun i hi h => (hF5 i h).elim (fun h => (hF3 i h).elim (fun h => by have := hF1 i h; omega) (fun h => by omega)) (fun h => by omega))
 have hF0 : ∀ b, F7 b → w0.heap.size ≤ b := fun b hb => (hF7 b hb).elim (fun h => (hF5 b h).elim (fun h => (hF3 b h).elim (hF1 b) (fun h => by omega)) (fun h => by omega)) (fun h => by omega)
 have ea := Sp.lv_a
 have eb := Sp.lv_b
 have ec := Sp.lv_c
 have ha1 : (Sp.of [] (Sp.letterT ⟨2, 1, 7, Sp.wt, false⟩ false false)).1 = 6 := ea.1
 have ha2 : (Sp.of [] (Sp.letterT ⟨2, 1, 7, Sp.wt, false⟩ false false)).2.1 = 0 := ea.2
 have hb1 : (Sp.of (Sp.of [] (Sp.letterT ⟨2, 1, 7, Sp.wt, false⟩ false false)).2.2 (Sp.letterT ⟨1, 1, 7, Sp.wt, false⟩ false false)).1 = 7 := eb.1
 have hb2 : (Sp.of (Sp.of [] (Sp.letterT ⟨2, 1, 7, Sp.wt, false⟩ false false)).2.2 (Sp.letterT ⟨1, 1, 7, Sp.wt, false⟩ false false)).2.1 = 0 := eb.2
 have hc1 : (Sp.of (Sp.of (Sp.of [] (Sp.letterT ⟨2, 1, 7, Sp.wt, false⟩ false false)).2.2 (Sp.letterT ⟨1, 1, 7, Sp.wt, false⟩ false false)).2.2 (Sp.letterT ⟨2, 1, 7, Sp.wu, false⟩ false false)).1 = 11 := ec.1
 have hc2 : (Sp.of (Sp.of (Sp.of [] (Sp.letterT ⟨2, 1, 7, Sp.wt, false⟩ false false)).2.2 (Sp.letterT ⟨1, 1, 7, Sp.wt, false⟩ false false)).2.2 (Sp.letterT ⟨2, 1, 7, Sp.wu, false⟩ false false)).2.1 = 0 := ec.2
 refine Br.f (by rw [ha2]; first | rfl | (rw [hb2]; first | rfl | (rw [hc2]; rfl))) ?_
 rw [ha1, hb1, hc1]
 clear ha1 ha2 hb1 hb2 hc1 hc2 ea eb ec
 intro H2 w9 hs9 p1 w11 h11
 have hv9 : ∀ b, F7 b → ¬ H2 b := hs9.disj (fun b hb => ⟨hP.lt hb, id⟩)
 have hP9 := hP.ext hs9.ext hv9
 have E9 := E.hst hs9
 have E11 : Pure w9 w11 := Ext.new h11
 refine (c_arb_Judge (some p) _ _ 1 7 Sp.wt w11 (reads_pool p _ [7, 6] w11 (hP9.pure E11) ok3 (Lst.of_ints [7, 6] (Box.of_new h11)) (by simp)) (by simp [readAll])).mono ?_
 rintro _ w12 ⟨b, y, i, rfl, hj, E12⟩
 rw [Sp.lv_x] at hj
 cases hj
 refine ⟨_, _, _, rfl, E12.keptP, ?_⟩
 intro H4 w14 hs14 p3 w15 h15
 have E12' := E11.trans E12
 have hP12 := hP9.pure E12'
 have hv14 : ∀ b, F7 b → ¬ H4 b := hs14.disj (fun b hb => ⟨hP12.lt hb, hv9 b hb⟩)
 have hP14 := hP12.ext hs14.ext hv14
 have E14 := (E9.trans E12').hst hs14
 have E15 : Pure w14 w15 := Ext.new h15
 refine (c_arb_Judge (some p) _ _ 1 7 Sp.wt w15 (reads_pool p _ [7] w15 (hP14.pure E15) ok3 (Lst.of_ints [7] (Box.of_new h15)) (by simp)) (by simp [readAll])).mono ?_
 rintro _ w16 ⟨b, y, i, rfl, hj, E16⟩
 rw [Sp.lv_y] at hj
 cases hj
 refine ⟨_, _, _, rfl, E16.keptP, ?_⟩
 intro H5 w18 hs18 p5 w19 h19
 have E16' := E15.trans E16
 have hP16 := hP14.pure E16'
 have hv18 : ∀ b, F7 b → ¬ H5 b := hs18.disj (fun b hb => ⟨hP16.lt hb, hv14 b hb⟩)
 have hP18 := hP16.ext hs18.ext hv18
 have E18 := (E14.trans E16').hst hs18
 have E19 : Pure w18 w19 := Ext.new h19
 refine (c_arb_Faults (some p) _ _ w19 (reads_pool p _ [6, 7, 11] w19 (hP18.pure E19) ok3 (Lst.of_ints [6, 7, 11] (Box.of_new h19)) (by simp)) (by simp [readAll])).mono ?_
 rintro _ w20 ⟨s, rfl, hs⟩
 rw [Sp.lv_l] at hs
 have E20 := E18.trans (E19.trans hs.pure)
 refine ⟨s, rfl, hs.kept, ?_⟩
 rintro _ rfl
 have hl : s.len = 1 := hs.rows.len
 have O := hs.own' (hs18.again E19.keptP)
 refine Br.t (by rw [hl]; rfl) ?_
 obtain ⟨a, hat, _⟩ := O.rows.nth (f := frow) (xs := [⟨1, 7, 1, 0, 2⟩]) (j := 0) (by simp)
 refine ⟨a, hat, ?_⟩
 intro H7 w22 hs22
 obtain ⟨a', hat', hrow⟩ := (O.hst hs22).rows.nth (f := frow) (xs := [⟨1, 7, 1, 0, 2⟩]) (j := 0) (by simp)
 have haa : a' = a := by
  obtain ⟨_, _, x, hx, rfl⟩ := hat
  obtain ⟨_, _, y, hy, rfl⟩ := hat'
  rw [hx] at hy; cases hy; rfl
 subst haa
 exact ⟨_, _, _, _, _, hrow, rfl, E20.hst hs22⟩
end Go.Proofs
end
section
open Go Go.SE
namespace Go.Proofs
attribute [local irreducible] Calls
theorem term_nth {S : Nat → Prop} {w : World} {s : Sl} {ids : List Int} (h : Lst S w 1 s (trows ids)) {j : Nat} (hj : j < ids.length) : ∃ a, At s j 1 a ∧ S a.block ∧ Row w a [Value.int .i64 ids[j]] := by
 obtain ⟨a, h1, h2, h3⟩ := h.at_ j (by simpa [trows] using hj)
 exact ⟨a, h1, h2, by simpa [trows] using h3⟩
theorem c_law13_ArbiterJudges {S : Nat → Prop} (ts : List Sp.Tree) (s : Sl) (who c : Int) (x : ByteArray) (w0 : World) (hT : TreeAt S w0 s (.mk 0 0 0 0 ⟨#[]⟩ ts)) (hS : ∀ b, S b → b < w0.heap.size) :
  Calls Try.prog 5 #[s.v, .agg #[.int .i64 who, .int .u64 c, .string x]] w0 (fun e w' => ∃ r : Bool, e = .returned (.bool r) ∧ (r = true ∧ Pure w0 w')) := by
 refine w_law13_ArbiterJudges _ _ _ _ w0 (fun r w' => r = true ∧ Pure w0 w') ?_
 unfold m_law13_ArbiterJudges
 intro H1 w1 hs1
 have E1 := hs1.first
 have sz : ∀ {w}, Pure w0 w → ∀ b, S b → b < w.heap.size := fun E b hb => by have := hS b hb; have := E.size; omega
 refine (c_law13_large ts s w1 (hT.pure E1) (sz E1)).mono ?_
 rintro _ w2 ⟨r1, rfl, hlg, E2⟩
 have E02 := E1.trans E2
 refine ⟨_, rfl, E2.keptP, fun _ => ?_, fun h => ?_⟩
 ·refine (c_live13 w2).mono ?_
  rintro _ w3 ⟨r2, rfl, hr2, E3⟩
  exact ⟨_, rfl, E3.keptP, hr2, E02.trans E3⟩
 obtain ⟨hn, hc⟩ := hlg h
 refine (c_law13_shown ts s w2 (hT.pure E02) (sz E02) (by omega) (by omega)).mono ?_
 rintro _ w4 ⟨_, r4, r5, rfl, p1, p2, F1, F2, rfl, hq⟩
 refine ⟨_, _, _, rfl, hq.pure.keptP, Br.f rfl ?_⟩
 have E04 := E02.trans hq.pure
 have hok := (Sp.showAll_ok ts hc).1
 have hlen : (Sp.showAll ts).2.2.length ≤ 40 := by
  have := Sp.show_len ts ([], [], [])
  rw [← hok.len]; unfold Sp.showAll; rw [this]; simpa using hn
 have hlen1 : (Sp.showAll ts).2.1.length ≤ 40 := by rw [hok.len]; exact hlen
 intro pc w5 h5
 obtain ⟨s1, w6, hr6, hR6, E46, hb6, hsz6⟩ := hq.ts.copied (P := Try.prog) (ty := 26) slT_term h5 (by simp [trows, oneCell]) (by simp [trows]; omega) (by simp [trows, maxLen]; omega)
 have hk56 : Kept H1 w5 w6 := by
  have E5 : Pure w4 w5 := Ext.new h5
  refine ⟨hsz6, fun b hb hh => ?_⟩
  have hlt : b < w4.heap.size := by have := hs1.lt b hh; have := (E2.trans hq.pure).size; omega
  rw [E46.keep b hlt (fun h => h), E5.keep b hlt (fun h => h)]
 refine ⟨s1, w6, hr6, hk56, ?_⟩
 have Ed : Pure w6 w6.drew := Ext.drew w6
 have R9 := hR6.pure Ed
 refine ⟨fun w' => Rws w' 41 1 s1 (trows (Sp.showAll ts).2.1), R9, ?_⟩
 rintro _ rfl
 have E4d := E46.trans Ed
 have hR : Reads (some p1) s1 (Sp.showAll ts).2.2 w6.drew := by rw [hok.each]; exact reads_pool p1 s1 _ _ (hq.pool1.pure E4d) hok.wf.ok R9.lst (by omega)
 have hfr := hok.frm
 have hls := hq.ls.pure E4d
 have hts := hq.ts.pure E4d
 generalize (Sp.showAll ts).2.2 = ls at *
 generalize (Sp.showAll ts).2.1 = ids at *
 have E0d := E04.trans E4d
 have hbl := bonds_len (ls := ls)
 have J1 : ∀ (w : World), Pure w6.drew w → m_law13_ArbiterJudges_j1 r4 s1 true w0 H1 w (fun r w' => r = true ∧ Pure w0 w') := by
  intro w E
  unfold m_law13_ArbiterJudges_j1
  have v1 : ∀ b, s1.blk b → ¬ H1 b := fun b hb hh => by have := hb6 b hb; have := hs1.lt b hh; have := (E2.trans hq.pure).size; omega
  have v4 : ∀ b, r4.blk b → ¬ H1 b := fun b hb hh => by have := (hq.o3 b hb).1; have := hs1.lt b hh; have := E2.size; omega
  have l4 : r4.len = ids.length := by rw [hts.len]; simp [trows]
  refine ⟨fun ok i H w' => ∃ j : Nat, i = j ∧ j ≤ ids.length ∧ ok = true ∧ Pure w0 w' ∧ Own H w' 41 1 s1 (trows ids) ∧ Own H w' 41 1 r4 (trows ids), fun _ i _ => ((ids.length : Int) - i).toNat, ⟨0, rfl, Nat.zero_le _, rfl, E0d.trans E, ⟨R9.pure E, v1⟩, ⟨hts.pure E, v4⟩⟩, ?_⟩
  rintro ok _ Hl wl hl ⟨j, rfl, hj, rfl, El, O1, O4⟩
  unfold m_law13_ArbiterJudges_l2
  refine ⟨fun h => Br.t rfl ?_, fun h => Br.t rfl ?_⟩
  ·have hlt := lt_of_dec l4 h
   obtain ⟨a1, at1, hb1, row1⟩ := term_nth O1.rows.lst hlt
   obtain ⟨a2, at2, hb2, row2⟩ := term_nth O4.rows.lst hlt
   refine ⟨a1, at1, ?_⟩
   intro w7 hs7
   have z : ∀ {a : Addr}, ¬ Hl a.block → Row wl a [Value.int .i64 ids[j]] → w7.cell? a = some (.int .i64 ids[j]) := by
    intro a hv r
    have := hs7.ext.row r hv 0 (by simp)
    rw [show a.add 0 = a by simp [Addr.add]] at this; exact this
   refine ⟨_, z (O1.vis _ hb1) row1, a2, at2, _, z (O4.vis _ hb2) row2, ?_⟩
   rw [wrap_succ hlt (by omega)]
   exact ⟨⟨j + 1, rfl, hlt, by simp, El.hst hs7, O1.hst hs7, O4.hst hs7⟩, lt_dec hlt⟩
  ·refine (c_live13 wl).mono ?_
   rintro _ w8 ⟨r6, rfl, hr6, E8⟩
   exact ⟨_, rfl, E8.keptP, hr6, El.trans E8⟩
 refine (c_arb_Judge (some p1) s1 ls who c x w6.drew hR (by omega)).mono ?_
 rintro _ w10 ⟨b1, y1, i1, rfl, hj1, E10⟩
 refine ⟨_, _, _, rfl, R9.pure E10, E10.keptP, ?_⟩
 refine (c_ref13_Judge r5 ls who c x w10 (hls.pure E10).lst (fun b hb => (hls.pure E10).lt hb) hfr (by omega)).mono ?_
 rintro _ w11 ⟨b2, y2, i2, rfl, hj2, E11⟩
 have X11 := E10.trans E11
 refine ⟨_, _, _, rfl, R9.pure X11, E11.keptP, ?_⟩
 have hjj := hj1.trans hj2.symm
 injection hjj with q1 q2
 injection q2 with q2 q3
 refine Br.t (by rw [q1, q2, q3]; simp) ?_
 refine (c_arb_Void (some p1) s1 ls c w11 (hR.pure X11) (by omega)).mono ?_
 rintro _ w12 ⟨r7, rfl, h7, E12⟩
 have X12 := X11.trans E12
 refine ⟨_, rfl, R9.pure X12, E12.keptP, ?_⟩
 refine (c_ref13_Void r5 ls c w12 (hls.pure X12).lst (by omega)).mono ?_
 rintro _ w13 ⟨r8, rfl, h8, rfl⟩
 refine ⟨_, rfl, R9.pure X12, (Ext.refl _ : Pure w13 w13).keptP, Br.t (by rw [h7, h8]; simp) ?_⟩
 refine (c_arb_Even (some p1) s1 ls c x w13 (hR.pure X12) (by omega)).mono ?_
 rintro _ w14 ⟨r9, rfl, h9, E14⟩
 have X14 := X12.trans E14
 refine ⟨_, rfl, R9.pure X14, E14.keptP, ?_⟩
 refine (c_ref13_Even r5 ls c x w14 (hls.pure X14).lst (fun b hb => (hls.pure X14).lt hb) hfr (by omega)).mono ?_
 rintro _ w15 ⟨r10, rfl, h10, E15⟩
 have X15 := X14.trans E15
 refine ⟨_, rfl, R9.pure X15, E15.keptP, Br.t (by rw [h9, h10]; simp) ?_⟩
 refine (c_arb_Texts (some p1) s1 ls who c w15 (hR.pure X15) (by omega)).mono ?_
 rintro _ w16 ⟨r11, rfl, h11⟩
 have X16 := X15.trans h11.pure
 refine ⟨_, rfl, R9.pure X16, h11.kept, ?_⟩
 refine (c_ref13_TextsOf r5 ls who c w16 (hls.pure X16) hfr (by omega)).mono ?_
 rintro _ w17 ⟨r12, rfl, h12⟩
 have X17 := X16.trans h12.pure
 refine ⟨_, rfl, R9.pure X17, h12.kept, ?_⟩
 refine (c_law13_texts (Sp.textsOf who c (Sp.bonds ls)) r11 r12 w17 (h11.rows.pure h12.pure) h12.rows ?_).mono ?_
 ·have := List.length_filter_le (fun b : Sp.Bond => b.who == who && b.c == c) (Sp.bonds ls)
  simp only [Sp.textsOf, List.length_map]; omega
 rintro _ w18 ⟨r13, rfl, h13, E18⟩
 subst h13
 refine ⟨_, rfl, R9.pure (X17.trans E18), E18.keptP, J1 w18 (X17.trans E18)⟩
end Go.Proofs
end
section
namespace Go.SE
open Go.ChangeShapes Go.WideShapes Go.ChangeAt Go.RowKit
section
variable {H : Type} {enc : TypeId × Value → H} {P : Program}
theorem below_trodAll (hl : laidOutB P = true) {W W' : World} (hb : Below W.heap.size W W') : ∀ (ts : List TypeId) (vs : List Value) (ds : List (DataW H)) (ps : List MemPlace), (ts.all fun t => P.readableRec t && decide (t < P.types.size)) = true →
  DataW.TrodAll enc P W 0 (fun _ => true) true ts vs ds ps → (∀ x ∈ ps, x.block < W.heap.size) → DataW.TrodAll enc P W' 0 (fun b => decide (b < W.heap.size)) true ts vs ds ps
 | [], _, _, _, _, h, _ => by
  obtain ⟨rfl, rfl, rfl⟩ := trodAll_nil h
  exact h
 | t :: ts, _, _, _, hr, h, hlt => by
  obtain ⟨v, vs1, d, ds1, a, b, rfl, rfl, rfl, h1, h2⟩ := trodAll_cons h
  simp only [List.all_cons, Bool.and_eq_true, decide_eq_true_eq] at hr
  exact ⟨a, b, Below.trod hl hr.1.1 hr.1.2 h1 hb (fun x hx => hlt x (by simp [hx])), below_trodAll hl hb ts vs1 ds1 b (by simpa using hr.2) h2 (fun x hx => hlt x (by simp [hx])), rfl⟩
theorem law_post {f : Func} {s : ChangeSpec} {W W' : World} {args : Array Value} {ds gs : List (DataW H)} {before : List MemPlace} {t : TypeId} (hl : laidOutB P = true)
  (hv : s.vars = []) (hf : ∀ ds : List (DataW H), ds.length = f.params.size → s.fn H ds = { results := [.lit (.bool true)], args := ds }) (hrt : f.resultTypes = #[t]) (ht : P.underlying t = some .bool)
  (hr : (f.params.toList.all fun t => P.readableRec t && decide (t < P.types.size)) = true)
  (hW : DataW.Whole enc P f.params.toList s.vars false W args.toList ds gs before) (E : Pure W W') :
  s.post enc P f false true false false W args (.bool true) W' := by
 have hW' := hW
 obtain ⟨p, q, hA, hV, rfl, hfz, hnd⟩ := hW
 rw [hv] at hV
 obtain ⟨rfl, rfl⟩ := trodVars_none hV
 have hlen : ds.length = f.params.size := by
  have : ∀ (ts : List TypeId) (vs : List Value) (ds : List (DataW H)) (ps : List MemPlace), DataW.TrodAll enc P W 0 (fun _ => true) true ts vs ds ps → ds.length = ts.length := by
   intro ts
   induction ts with
   | nil => intro vs ds ps h; obtain ⟨_, rfl, _⟩ := trodAll_nil h; rfl
   | cons t ts ih =>
    intro vs ds ps h
    obtain ⟨v, vs1, d, ds1, a, b, _, rfl, _, _, h2⟩ := trodAll_cons h
    simp [ih _ _ _ h2]
  simpa using this _ _ _ _ hA
 have hfn := hf ds hlen
 have hfn' : s.fn H (ds ++ []) = { results := [.lit (.bool true)], args := ds } := by rw [List.append_nil]; exact hfn
 have hlt : ∀ x ∈ p, x.block < W.heap.size := fun x hx => by simpa using hW'.lt x (by simp [hx])
 have bel := E.below
 refine ⟨ds, [], p ++ [], [], p, [], hW', ?_, ?_, ?_, bel.frame _, fun h => by cases h⟩
 ·rw [hfn', hrt]; exact trodAll_mk1 (shut_bool ht _)
 ·rw [hfn']; exact below_trodAll hl bel _ _ _ _ hr hA hlt
 ·rw [hfn', hv]; exact hV
theorem law_lifted {C : Checked} {os : Os} {f : FuncId} {fn : Func} {s : ChangeSpec} {t : TypeId} (hl : laidOutB C.prog = true)
  (hv : s.vars = []) (hf : ∀ ds : List (DataW H), ds.length = fn.params.size → s.fn H ds = { results := [.lit (.bool true)], args := ds }) (hrt : fn.resultTypes = #[t]) (ht : C.prog.underlying t = some .bool)
  (hr : (fn.params.toList.all fun t => C.prog.readableRec t && decide (t < C.prog.types.size)) = true)
  (own : ownKnob C.prog.godebug = none) (started : os.Started) (noInit : C.prog.inits.idxOf? f = none) (hfn : C.prog.funcs[f]? = some fn)
  (witness : ∃ (w : World) (tape : Tape) (i : Input), w.os = os ∧ (w.forCall tape i).Shaped C.prog ∧ i.vars = [] ∧ Input.okWide C.prog (w.forCall tape i) .any w.heap.size f i ∧
   s.pre6 enc C.prog fn [] false (w.forCall tape i).memory i.args ∧ ({} : Assume).holds C.prog (lone (Frame.enter C.prog f i.args .normal) [] (w.forCall tape i)))
  (contract : ∀ (W : World) (base : Nat) (args : Array Value) (ds : List (DataW H)) (p : List MemPlace),
   (∀ (j : Nat) t v, fn.params[j]? = some t → args[j]? = some v → Value.okWide C.prog W .any base t v) →
   DataW.TrodAll enc C.prog W 0 (fun _ => true) true fn.params.toList args.toList ds p → (∀ x ∈ p, x.block < W.heap.size) →
   Calls C.prog f args W (fun e W' => ∃ r : Bool, e = .returned (.bool r) ∧ (r = true ∧ Pure W W'))) :
  ReturnsInHanded {} C os f .any (s.pre6 enc C.prog fn [] false) (s.post enc C.prog fn false true false false) := by
 refine returnsInHanded_of_change own started noInit hfn witness ?_
 intro W base args ds gs before hval hW _ _
 have hW' := hW
 obtain ⟨p, q, hA, hV, rfl, hfz, hnd⟩ := hW
 refine (contract W base args ds p hval hA (fun x hx => by simpa using hW'.lt x (by simp [hx]))).mono fun e W' ⟨r, he, h1, h2⟩ => ?_
 subst h1
 exact ⟨_, he, law_post hl hv hf hrt ht hr hW' h2⟩
end
end Go.SE
namespace Go.SE
open Go.ChangeShapes Go.WideShapes Go.ChangeAt Go.RowKit
section
variable {P : Program} {W : World} {r : Reach} {b0 : Nat} {t : TypeId} {v : Value}
theorem okWide_cells {fs : Array Field} {ts : List TypeId} (ht : P.underlying t = some (.struct fs)) (hc : P.cellTypes P.depth t = some ts) (hn : P.cellsOf t = ts.length) (h : Value.okWide P W r b0 t v) :
  ∃ cs : Array Value, v = .agg cs ∧ cs.size = ts.length ∧ ∀ (i : Nat) (u : TypeId) (c : Value), ts[i]? = some u → cs[i]? = some c → Cell.okWide P W r b0 u c := by
 unfold Value.okWide at h
 rw [ht] at h
 obtain ⟨cs, rfl, hs, ts', hts, _, hall⟩ := h
 rw [hc] at hts
 cases hts
 refine ⟨cs, rfl, hs.trans hn, fun i u c hu hcs => ?_⟩
 obtain ⟨u', hu', hok⟩ := hall i c hcs
 have hlt : i < ts.length := (List.getElem?_eq_some_iff.1 hu).1
 rw [Nat.mod_eq_of_lt hlt, hu] at hu'
 cases hu'
 exact hok
theorem cell_okInt {k : IntKind} (ht : P.underlying t = some (.int k)) (h : Cell.okWide P W r b0 t v) : ∃ n, v = .int k n :=
 okWide_int ht (by unfold Value.okWide; rw [ht]; exact h)
theorem cell_okString (ht : P.underlying t = some .string) (h : Cell.okWide P W r b0 t v) : ∃ x, v = .string x := by
 have : Value.okWide P W r b0 t v := by unfold Value.okWide; rw [ht]; exact h
 unfold Cell.okWide at h
 rw [ht] at h
 cases v <;> simp [Cell.ok, ht] at h
 exact ⟨_, rfl⟩
theorem okWide_sl {e : TypeId} (ht : P.underlying t = some (.slice e)) (h : Value.okWide P W r b0 t v) : ∃ a n c, v = .slice a n c := by
 unfold Value.okWide at h
 rw [ht] at h
 simp only at h
 unfold Cell.okWide at h
 rw [ht] at h
 cases v <;> simp [Cell.ok, ht] at h
 exact ⟨_, _, _, rfl⟩
end
end Go.SE
end
section
open Go Go.SE
namespace Go.Proofs
theorem mapM_facts {α β : Type} {f : α → Option β} : ∀ {l : List α} {r : List β}, l.mapM f = some r → r.length = l.length ∧ ∀ (i : Nat) (a : α), l[i]? = some a → ∃ b, f a = some b ∧ r[i]? = some b
 | [], r, h => by
  have : r = [] := by simpa using h.symm
  subst this
  exact ⟨rfl, fun i a h => by simp at h⟩
 | x :: xs, r, h => by
  rw [List.mapM_cons] at h
  cases hx : f x with
  | none => simp [hx] at h
  | some y =>
   cases hxs : xs.mapM f with
   | none => simp [hx, hxs] at h
   | some ys =>
    have : r = y :: ys := by simpa [hx, hxs] using h.symm
    subst this
    obtain ⟨h1, h2⟩ := mapM_facts hxs
    refine ⟨by simp [h1], fun i a ha => ?_⟩
    cases i with
    | zero => cases ha; exact ⟨y, hx, rfl⟩
    | succ i => exact h2 i a (by simpa using ha)
theorem cells_row {w : World} {base : Nat} {a : Addr} {n : Nat} {cs : List Value} (h : w.cells? base a n = some cs) : cs.length = n ∧ Row w a cs := by
 obtain ⟨_, h1, h2⟩ := World.cells?_some h
 exact ⟨h1, fun j hj => h2 j (by omega)⟩
section
variable {H : Type} {enc : TypeId × Value → H} {P : Program} {W : World} {base : Nat} {sp : Nat → Bool} {held : Bool}
theorem trod_int1 {t : TypeId} {k : IntKind} (ht : P.underlying t = some (.int k)) {n : Nat} {c : Value} {x : DataW H × List MemPlace} (h : DataW.trod enc P W base sp held n t [c] = some x) : ∃ m, c = .int k m := by
 cases n with
 | zero => cases h
 | succ n =>
  rw [DataW.trod_step] at h
  unfold DataW.trodStep at h
  rw [ht] at h
  cases c <;> simp at h
  obtain ⟨⟨rfl, _⟩, _⟩ := h
  exact ⟨_, rfl⟩
theorem trod_str1 {t : TypeId} (ht : P.underlying t = some .string) {n : Nat} {c : Value} {x : DataW H × List MemPlace} (h : DataW.trod enc P W base sp held n t [c] = some x) : ∃ m, c = .string m := by
 cases n with
 | zero => cases h
 | succ n =>
  rw [DataW.trod_step] at h
  unfold DataW.trodStep at h
  rw [ht] at h
  cases c <;> simp at h
  exact ⟨_, rfl⟩
theorem trod_slice1 {t e : TypeId} (ht : P.underlying t = some (.slice e)) {n : Nat} {c : Value} {x : DataW H × List MemPlace} (h : DataW.trod enc P W base sp held (n + 1) t [c] = some x) :
  c = .slice none 0 0 ∨ ∃ a len cap, c = .slice (some a) len cap ∧ len ≤ cap ∧ cap ≤ maxLen ∧ ∀ i, i < len → ∃ cs y, W.cells? base (a.add (i * P.cellsOf e)) (P.cellsOf e) = some cs ∧ DataW.trod enc P W base sp held n e cs = some y := by
 rw [DataW.trod_step] at h
 unfold DataW.trodStep at h
 rw [ht] at h
 cases c with
 | slice a len cap =>
  cases a with
  | none =>
   cases len with
   | zero => cases cap with
    | zero => exact .inl rfl
    | succ c => simp at h
   | succ l => simp at h
  | some a =>
   right
   simp only at h
   split at h
   ·rename_i hc
    refine ⟨a, len, cap, rfl, hc.2.1, hc.2.2, fun i hi => ?_⟩
    cases hm : (List.range len).mapM fun i => (W.cells? base (a.add (i * P.cellsOf e)) (P.cellsOf e)).bind (DataW.trod enc P W base sp held n e) with
    | none => rw [hm] at h; cases h
    | some r =>
     obtain ⟨b, hb, _⟩ := (mapM_facts hm).2 i i (by simp [hi])
     obtain ⟨cs, h1, h2⟩ := Option.bind_eq_some_iff.1 hb
     exact ⟨cs, b, h1, h2⟩
   ·cases h
 | _ => simp at h
structure TreeTypes (P : Program) (tS tT : TypeId) : Prop where
 ex : ∃ ti tu ts : TypeId, ∃ f0 f1 f2 f3 f4 f5 : Field, P.underlying tS = some (.slice tT) ∧ P.underlying tT = some (.struct #[f0, f1, f2, f3, f4, f5]) ∧ P.cellsOf tT = 6 ∧
  (f0.type = ti ∧ f1.type = ti ∧ f2.type = ti ∧ f3.type = tu ∧ f4.type = ts ∧ f5.type = tS) ∧ (f0.offset = 0 ∧ f1.offset = 1 ∧ f2.offset = 2 ∧ f3.offset = 3 ∧ f4.offset = 4 ∧ f5.offset = 5) ∧
  P.underlying ti = some (.int .i64) ∧ P.underlying tu = some (.int .u64) ∧ P.underlying ts = some .string ∧ P.cellsOf ti = 1 ∧ P.cellsOf tu = 1 ∧ P.cellsOf ts = 1 ∧ P.cellsOf tS = 1
theorem trod_tree {tS tT : TypeId} (hTT : TreeTypes P tS tT) : ∀ n : Nat,
  (∀ (c : Value) (x : DataW H × List MemPlace), DataW.trod enc P W base sp held n tS [c] = some x → ∃ s : Sl, ∃ ts : List Sp.Tree, c = s.v ∧ ∀ (k f t u : Int) (tx : ByteArray), TreeAt (fun _ => True) W s (.mk k f t u tx ts)) ∧
  (∀ (cs : List Value) (x : DataW H × List MemPlace), DataW.trod enc P W base sp held n tT cs = some x → ∃ t s, cs = trow t s ∧ TreeAt (fun _ => True) W s t) := by
 obtain ⟨ti, tu, tx, f0, f1, f2, f3, f4, f5, hS, hT, hc6, ⟨e0, e1, e2, e3, e4, e5⟩, ⟨o0, o1, o2, o3, o4, o5⟩, ui, uu, us, ci, cu, cs1, cS⟩ := hTT.ex
 intro n
 induction n with
 | zero => exact ⟨fun c x h => (by cases h), fun cs x h => (by cases h)⟩
 | succ n ih =>
  refine ⟨fun c x h => ?_, fun cs x h => ?_⟩
  ·rcases trod_slice1 hS h with rfl | ⟨a, len, cap, rfl, hle, hcm, hel⟩
   ·exact ⟨Sl.nil, [], rfl, fun k f t u tx => .mk k f t u tx [] Sl.nil (fun _ => Sl.nil) rfl (by simp) (fun i h => by simp at h) (fun i h => by simp at h)⟩
   ·rw [hc6] at hel
    have hex : ∀ i, ∃ q : Sp.Tree × Sl, i < len → Row W (a.add (i * 6)) (trow q.1 q.2) ∧ TreeAt (fun _ => True) W q.2 q.1 := by
     intro i
     by_cases hi : i < len
     ·obtain ⟨cs, y, h1, h2⟩ := hel i hi
      obtain ⟨tr, s, e, hTr⟩ := ih.2 cs y h2
      exact ⟨(tr, s), fun _ => ⟨e ▸ (cells_row h1).2, hTr⟩⟩
     ·exact ⟨(Sp.Tree.mk 0 0 0 0 ⟨#[]⟩ [], Sl.nil), fun h => absurd h hi⟩
    obtain ⟨q, hq⟩ := Classical.axiomOfChoice hex
    refine ⟨⟨some a, len, cap⟩, (List.range len).map fun i => (q i).1, rfl, fun k f t u tx => .mk k f t u tx _ _ (fun i => (q i).2) (by simp) (by simp only [maxLen] at hcm; simp; omega) (fun i h => ?_) (fun i h => ?_)⟩
    ·have hi : i < len := by simpa using h
     refine ⟨a.add (i * 6), ⟨by omega, by simpa using hi, a, rfl, by simp⟩, trivial, ?_⟩
     simpa using (hq i hi).1
    ·have hi : i < len := by simpa using h
     simpa using (hq i hi).2
  ·rw [DataW.trod_step] at h
   unfold DataW.trodStep at h
   rw [hT] at h
   simp only at h
   split at h
   ·rename_i hl
    rw [hc6] at hl
    match cs, hl with
    | [c0, c1, c2, c3, c4, c5], _ =>
     cases hm : ([f0, f1, f2, f3, f4, f5] : List Field).mapM (fun f => DataW.trod enc P W base sp held n f.type ((([c0, c1, c2, c3, c4, c5] : List Value).drop f.offset).take (P.cellsOf f.type))) with
     | none => rw [hm] at h; cases h
     | some r =>
      have hf := (mapM_facts hm).2
      obtain ⟨_, h0, _⟩ := hf 0 f0 rfl
      obtain ⟨_, h1, _⟩ := hf 1 f1 rfl
      obtain ⟨_, h2, _⟩ := hf 2 f2 rfl
      obtain ⟨_, h3, _⟩ := hf 3 f3 rfl
      obtain ⟨_, h4, _⟩ := hf 4 f4 rfl
      obtain ⟨_, h5, _⟩ := hf 5 f5 rfl
      rw [e0, o0, ci] at h0; rw [e1, o1, ci] at h1; rw [e2, o2, ci] at h2; rw [e3, o3, cu] at h3; rw [e4, o4, cs1] at h4; rw [e5, o5, cS] at h5
      obtain ⟨m0, rfl⟩ := trod_int1 ui h0
      obtain ⟨m1, rfl⟩ := trod_int1 ui h1
      obtain ⟨m2, rfl⟩ := trod_int1 ui h2
      obtain ⟨m3, rfl⟩ := trod_int1 uu h3
      obtain ⟨m4, rfl⟩ := trod_str1 us h4
      obtain ⟨s, ts, rfl, hTr⟩ := ih.1 c5 _ h5
      exact ⟨.mk m0 m1 m2 m3 m4 ts, s, rfl, hTr m0 m1 m2 m3 m4⟩
   ·cases h
theorem trees_of_trod {tS tT : TypeId} (hTT : TreeTypes P tS tT) {v : Value} {d : DataW H} {ps : List MemPlace} (h : DataW.Trod enc P W base sp held tS v d ps) (hv : ∃ a n c, v = .slice a n c) :
  ∃ s : Sl, ∃ ts : List Sp.Tree, v = s.v ∧ TreeAt (fun b => b < W.heap.size) W s (.mk 0 0 0 0 ⟨#[]⟩ ts) := by
 obtain ⟨n, h⟩ := h
 obtain ⟨a, m, c, rfl⟩ := hv
 obtain ⟨s, ts, e, hT⟩ := (trod_tree hTT n).1 _ _ h
 exact ⟨s, ts, e, (hT 0 0 0 0 ⟨#[]⟩).lt.mono (fun b hb => hb.2)⟩
end
theorem treeTypes : TreeTypes Try.prog 22 116 :=
 ⟨3, 38, 9, _, _, _, _, _, _, Try.underlying22, Try.underlying116, by kernel_rfl, ⟨rfl, rfl, rfl, rfl, rfl, rfl⟩, ⟨rfl, rfl, rfl, rfl, rfl, rfl⟩, Try.underlying3, Try.underlying38, Try.underlying9, by kernel_rfl, by kernel_rfl, by kernel_rfl, by kernel_rfl⟩
end Go.Proofs
end
