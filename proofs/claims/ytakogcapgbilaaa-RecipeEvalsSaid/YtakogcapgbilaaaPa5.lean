import Derived.Test.YtakogcapgbilaaaPa2
import Derived.Test.YtakogcapgbilaaaPa4
import Derived.Test.YtakogcapgbilaaaPa3
import Derived.Test.YtakogcapgbilaaaPa0
import Derived.ProofKit
import Derived.Carry
import Derived.OpenShut
import Derived.Stop.Joined
section
namespace Go.Sp
theorem check_err (L : Pool) (n : Node) : (check L n).2.2 ≠ 6 ∧ (check L n).2.2 ≠ 3 := by
 have hp : plainErr n = 53 ∨ plainErr n = 0 := by
  unfold plainErr; simp only; split
  ·exact .inl rfl
  ·exact .inr rfl
 have hf : fieldsErr (shapeOf n.kind) n = 50 ∨ fieldsErr (shapeOf n.kind) n = 1 ∨ fieldsErr (shapeOf n.kind) n = 0 := by
  unfold fieldsErr
  split
  ·exact .inl rfl
  ·split
   ·exact .inr (.inl rfl)
   ·exact .inr (.inr rfl)
 unfold check
 simp only
 refine ite_ind (P := fun r : Int × Int × Int => r.2.2 ≠ 6 ∧ r.2.2 ≠ 3) (by simp only; omega) (ite_ind (P := fun r : Int × Int × Int => r.2.2 ≠ 6 ∧ r.2.2 ≠ 3) (by decide) (ite_ind (P := fun r : Int × Int × Int => r.2.2 ≠ 6 ∧ r.2.2 ≠ 3) (by simp only; omega) (ite_ind (P := fun r : Int × Int × Int => r.2.2 ≠ 6 ∧ r.2.2 ≠ 3) (by decide) (ite_ind (P := fun r : Int × Int × Int => r.2.2 ≠ 6 ∧ r.2.2 ≠ 3) (by decide) ⟨by simp, by simp⟩))))
theorem make_err {L : Pool} (n : Node) (h : L.length < 65536) : (make L n).2.1 ≠ 6 ∧ (make L n).2.1 ≠ 3 := by
 have hc := check_err L n
 unfold make
 simp only
 split
 ·exact hc
 ·split
  ·exact ⟨by simp, by simp⟩
  ·split
   ·omega
   ·exact ⟨by simp, by simp⟩
theorem doOp_err {L : Pool} (h : L.length < 65536) (G M : List Int) (o : Op) (ht : (doOp L G M o).2.1 ≠ 0) : (doOp L G M o).2.1 ≠ 6 ∧ (doOp L G M o).2.1 ≠ 3 := by
 have hn : (noOp L).2.1 ≠ 6 ∧ (noOp L).2.1 ≠ 3 := ⟨by simp [noOp], by simp [noOp]⟩
 have hz : ∀ t : Int, ((t, 0, L) : Res).2.1 ≠ 6 ∧ ((t, 0, L) : Res).2.1 ≠ 3 := fun t => ⟨by simp, by simp⟩
 have hk : ∀ mk, (keyedOp L M o mk).2.1 ≠ 6 ∧ (keyedOp L M o mk).2.1 ≠ 3 := fun mk => by
  unfold keyedOp; split
  ·exact hn
  ·split
   ·exact make_err _ h
   ·exact hn
 have h0 : (knownOp L G o).2.1 ≠ 6 ∧ (knownOp L G o).2.1 ≠ 3 := by unfold knownOp; split; exact hn; exact hz _
 have h4 : (pairOp L M o).2.1 ≠ 6 ∧ (pairOp L M o).2.1 ≠ 3 := by
  unfold pairOp; split
  ·exact hn
  ·split
   ·exact hn
   ·exact make_err _ h
 have h5 : (hashOp L M o).2.1 ≠ 6 ∧ (hashOp L M o).2.1 ≠ 3 := by
  unfold hashOp; split
  ·exact hn
  ·exact make_err _ h
 have h6 : ∀ s, (partOp L M o s).2.1 ≠ 6 ∧ (partOp L M o s).2.1 ≠ 3 := fun s => by unfold partOp; split; exact hz _; exact hn
 have h8 : (shownOp L M o).2.1 ≠ 6 ∧ (shownOp L M o).2.1 ≠ 3 := by unfold shownOp; split; exact hz _; exact hn
 unfold doOp
 exact ite_ind (P := fun r : Res => r.2.1 ≠ 6 ∧ r.2.1 ≠ 3) h0 (ite_ind (P := fun r : Res => r.2.1 ≠ 6 ∧ r.2.1 ≠ 3) (make_err _ h) (ite_ind (P := fun r : Res => r.2.1 ≠ 6 ∧ r.2.1 ≠ 3) (make_err _ h) (ite_ind (P := fun r : Res => r.2.1 ≠ 6 ∧ r.2.1 ≠ 3) (make_err _ h) (ite_ind (P := fun r : Res => r.2.1 ≠ 6 ∧ r.2.1 ≠ 3) h4 (ite_ind (P := fun r : Res => r.2.1 ≠ 6 ∧ r.2.1 ≠ 3) h5 (ite_ind (P := fun r : Res => r.2.1 ≠ 6 ∧ r.2.1 ≠ 3) (h6 _) (ite_ind (P := fun r : Res => r.2.1 ≠ 6 ∧ r.2.1 ≠ 3) (h6 _) (ite_ind (P := fun r : Res => r.2.1 ≠ 6 ∧ r.2.1 ≠ 3) h8 (ite_ind (P := fun r : Res => r.2.1 ≠ 6 ∧ r.2.1 ≠ 3) (hk _) (ite_ind (P := fun r : Res => r.2.1 ≠ 6 ∧ r.2.1 ≠ 3) (hk _) (ite_ind (P := fun r : Res => r.2.1 ≠ 6 ∧ r.2.1 ≠ 3) (hk _) hn)))))))))))
theorem doOp_few (L : Pool) (G M : List Int) (o : Op) : (doOp L G M o).2.2.length ≤ L.length + 1 :=
 doOp_ind (fun r => r.2.2.length ≤ L.length + 1) (fun _ _ => Nat.le_succ _) (fun n => make_few8 L n) G M o
theorem runOps_err (G : List Int) : ∀ (l : List Op) (L : Pool) (M : List Int), L.length + l.length ≤ 65536 → (runOps L G M l).2.1 ≠ 6 ∧ (runOps L G M l).2.1 ≠ 3
 | [], _, _, _ => ⟨by simp [runOps], by simp [runOps]⟩
 | o :: os, L, M, h => by
  rw [List.length_cons] at h
  unfold runOps
  split
  ·rename_i hne
   exact doOp_err (by omega) G M o hne
  ·have := doOp_few L G M o
   exact runOps_err G os _ _ (by omega)
theorem evalOps_err {L : Pool} {G : List Int} {l : List Op} (h : L.length + l.length ≤ 65536) : ((evalOps L G l).2.1 ≠ 6 ∧ (evalOps L G l).2.1 ≠ 3) ↔ (l.length ≤ 256 ∧ l.length ≠ 0) := by
 have hr := runOps_err G l L [] h
 unfold evalOps
 by_cases h1 : l.length > 256
 ·rw [if_pos h1]; simp only; constructor
  ·intro h; exact absurd rfl h.1
  ·intro h; omega
 ·rw [if_neg h1]
  by_cases h2 : l.length = 0
  ·rw [if_pos h2]; simp only; constructor
   ·intro h; exact absurd rfl h.2
   ·intro h; omega
  ·rw [if_neg h2]
   refine ⟨fun _ => ⟨by omega, h2⟩, fun _ => ?_⟩
   split
   ·exact hr
   ·exact ⟨by simp, by simp⟩
theorem sideAll_few (ts : List Tree) : (sideAll ts).1.length ≤ cntAll ts := by
 have : ∀ (ts : List Tree) q, (ts.foldl sideStep q).1.length ≤ q.1.length + cntAll ts := by
  intro ts
  induction ts with
  | nil => intro q; simp [cntAll]
  | cons t ts ih =>
   intro q
   have h1 := ih (sideStep q t)
   have h2 := of_few8 q.1 t
   rw [List.foldl_cons, cntAll]
   unfold sideStep at h1 ⊢
   simp only at h1
   omega
 have := this ts ([], [])
 simpa [sideAll] using this
end Go.Sp
end
section
open Go Go.SE
namespace Go.Sp
def l9t : List Tree := [.mk 7 0 0 0 ⟨#[]⟩ [.mk 2 0 0 1 ⟨#[]⟩ []], .mk 6 0 0 0 ⟨#[]⟩ []]
def l9p : Pool := [⟨⟨2, 0, 0, 1, ⟨#[]⟩, 0, 0⟩, 1, 1⟩, ⟨⟨7, 0, 0, 0, ⟨#[]⟩, 1, 0⟩, 2, 2⟩, ⟨⟨6, 0, 0, 0, ⟨#[]⟩, 0, 0⟩, 1, 1⟩]
def l9a : List Op := [⟨0, 0, 0, 0, ⟨#[]⟩⟩, ⟨8, 0, 0, 0, ⟨#[]⟩⟩, ⟨5, 1, 0, 0, ⟨#[]⟩⟩, ⟨0, 1, 0, 0, ⟨#[]⟩⟩, ⟨9, 2, 3, 0, ⟨#[]⟩⟩]
def l9b : List Op := [⟨0, 0, 0, 0, ⟨#[]⟩⟩, ⟨6, 0, 0, 0, ⟨#[]⟩⟩]
def l9q : Pool := l9p ++ [⟨⟨5, 0, 0, 0, ⟨#[]⟩, 1, 0⟩, 2, 2⟩, ⟨⟨7, 0, 0, 0, ⟨#[]⟩, 4, 0⟩, 3, 3⟩]
theorem l9s : sideAll l9t = (l9p, [2, 3]) := by kernel_rfl
theorem l9e : evalOps l9p [2, 3] l9a = (5, 0, 0, l9q) := by kernel_rfl
theorem l9f : evalOps l9q [2, 3] l9b = (0, 90, 1, l9q) := by kernel_rfl
theorem l9n : nodeOf l9q 5 = ⟨7, 0, 0, 0, ⟨#[]⟩, 4, 0⟩ := by kernel_rfl
end Go.Sp
namespace Go.Proofs
attribute [local irreducible] Calls
theorem Lst.of_box {w : World} {p : Addr} {T : TypeId} {sz : Nat} (rs : List (List Value)) (hsz : ∀ r ∈ rs, r.length = sz) (h : Box w p rs.flatten T) : Lst (· = p.block) w sz ⟨some p, rs.length, rs.length⟩ rs := by
 refine ⟨rfl, fun i hi => ⟨p.add (i * sz), ⟨by omega, by show (i : Int) < (rs.length : Int); omega, p, rfl, rfl⟩, by rw [add_block], fun j hj => ?_⟩⟩
 have hl := hsz _ (List.getElem_mem hi)
 rw [add_add, List.getElem?_eq_getElem hj]
 refine h.cell ?_
 rw [flatten_get hsz hi (by omega), List.getElem?_eq_getElem hj]
theorem oprow_sz (l : List Sp.Op) : ∀ q ∈ l.map oprow, q.length = 5 := by intro q hq; obtain ⟨o, _, rfl⟩ := List.mem_map.1 hq; rfl
theorem oprow_one (l : List Sp.Op) : ∀ q ∈ l.map oprow, q.all oneCell = true := by intro q hq; obtain ⟨o, _, rfl⟩ := List.mem_map.1 hq; rfl
theorem c_live9 (w0 : World) : Calls Try.prog 52 #[] w0 (fun e w' => ∃ r : Bool, e = .returned (.bool r) ∧ (r = true ∧ Pure w0 w')) := by
 refine w_law09_live w0 (fun r w' => r = true ∧ Pure w0 w') ?_
 unfold m_law09_live
 intro p1 w1 n1 p2 w2 n2
 have E1 : Pure w0 w1 := Ext.new n1
 have E2 : Pure w1 w2 := Ext.new n2
 have hT : TreeAt (fun b => b = p1.block ∨ b = p2.block) w2 ⟨some p2, 2, 2⟩ (.mk 0 0 0 0 ⟨#[]⟩ Sp.l9t) :=
  TreeAt.pair (A := .mk 7 0 0 0 ⟨#[]⟩ [.mk 2 0 0 1 ⟨#[]⟩ []]) (B := .mk 6 0 0 0 ⟨#[]⟩ []) (sa := ⟨some p1, 1, 1⟩) (sb := Sl.nil) (Box.of_new n2) (.inr rfl) (TreeAt.one (A := .mk 2 0 0 1 ⟨#[]⟩ []) (sa := Sl.nil) ((Box.of_new n1).pure E2) (.inl rfl) TreeAt.leaf) TreeAt.leaf
 have z1 := (Box.of_new n1).lt
 have z2 := (Box.of_new n2).lt
 have y2 := E2.size
 refine (c_law09_given (ST := fun b => b = p1.block ∨ b = p2.block) Sp.l9t ⟨some p2, 2, 2⟩ w2 hT (fun b hb => by rcases hb with rfl | rfl <;> omega) (by decide) (by decide)).mono ?_
 rintro _ w3 ⟨_, _, rfl, s, p, k, q, sg, S, FP, FK, FR, rfl, rfl, A, hk⟩
 rw [Sp.l9s] at A hk
 simp only at A hk
 have hW : Sp.Wf Sp.l9p := by have := Sp.sideAll_wf Sp.l9t; rwa [Sp.l9s] at this
 have hWq : Sp.Wf Sp.l9q := by have := Sp.evalOps_wf hW [2, 3] Sp.l9a; rwa [Sp.l9e] at this
 refine ⟨_, _, rfl, A.pure.keptP, Br.f rfl ?_⟩
 have Ad := A.pureE (Ext.drew w3)
 refine ⟨fun w => Box w s [.pointer (some p), .pointer (some k), .pointer (some q), sg.v] 106, Ad.box, ?_⟩
 rintro _ rfl
 refine ⟨s, rfl, some p, fun _ h => h.cell0, s, rfl, some k, fun _ h => h.cell rfl, ?_⟩
 intro p3 w5 n5
 have E5 : Pure w3.drew w5 := Ext.new n5
 have A5 := Ad.pureE E5
 refine ⟨A5.box, ?_⟩
 have b3 := n5.at_size
 refine (c_recipe_Eval (Sl0 := (· = p3.block)) p k ⟨some p3, 5, 5⟩ Sp.l9a w5 hW A5.pool A5.know (Lst.of_box (Sp.l9a.map oprow) (oprow_sz _) (Box.of_new n5)) (fun b hb => by subst hb; exact ⟨(Box.of_new n5).lt, fun hf => by have := Ad.pool.lt hf; omega⟩) (by decide) (by decide)).mono ?_
 rintro _ w6 ⟨r3, r4, r5, rfl, hr, F', hP6, X6, hF6⟩
 rw [Sp.l9e] at hr hP6
 cases hr
 obtain ⟨k6, A6⟩ := A5.prog hP6 X6 hF6
 refine ⟨_, _, _, rfl, A6.box, k6, ?_⟩
 have Ae := A6.pureE (Ext.drew w6)
 refine ⟨fun w => Box w s [.pointer (some p), .pointer (some k), .pointer (some q), sg.v] 106, Ae.box, ?_⟩
 rintro _ rfl
 refine ⟨s, rfl, some p, fun _ h => h.cell0, s, rfl, some k, fun _ h => h.cell rfl, ?_⟩
 intro p4 w8 n8
 have E8 : Pure w6.drew w8 := Ext.new n8
 have A8 := Ae.pureE E8
 refine ⟨A8.box, ?_⟩
 have b4 := n8.at_size
 refine (c_recipe_Eval (Sl0 := (· = p4.block)) p k ⟨some p4, 2, 2⟩ Sp.l9b w8 hWq A8.pool A8.know (Lst.of_box (Sp.l9b.map oprow) (oprow_sz _) (Box.of_new n8)) (fun b hb => by subst hb; exact ⟨(Box.of_new n8).lt, fun hf => by have := Ae.pool.lt hf; omega⟩) (by decide) (by decide)).mono ?_
 rintro _ w9 ⟨r6, r7, r8, rfl, hr, F'', hP9, X9, hF9⟩
 rw [Sp.l9f] at hr hP9
 cases hr
 obtain ⟨k9, A9⟩ := A8.prog hP9 X9 hF9
 refine ⟨_, _, _, rfl, A9.box, k9, s, rfl, some p, A9.box.cell0, ?_⟩
 refine (c_Node p 5 w9 A9.pool hWq.ok).mono ?_
 rintro _ w10 ⟨nk, nf, nt, nu, nx, na, nb, r9, rfl, ⟨hn, _⟩, E10⟩
 rw [Sp.l9n] at hn
 cases hn
 refine ⟨_, _, _, _, _, _, _, _, rfl, E10.keptP, fun H w hs => ⟨rfl, ?_⟩⟩
 exact (((E1.trans E2).trans A9.pure).trans E10).trans' hs.ext (fun b hb hh => by have := hs.old b hh; omega)
end Go.Proofs
end
section
open Go Go.SE
namespace Go.Proofs
attribute [local irreducible] Calls
theorem slT_op : SlType Try.prog 98 175 5 48 := by
 refine ⟨Try.underlying98, ⟨Try.t175, _, by kernel_rfl, (by kernel_rfl : Try.t175.zero = some (.agg #[.int .i64 0, .int .i64 0, .int .i64 0, .int .u64 0, .string ⟨#[]⟩])), by kernel_rfl, by kernel_rfl, rfl⟩, by omega⟩
theorem SideAt.base {w0 w1 w : World} {s p k q : Addr} {sg : Sl} {L1 L2 : Sp.Pool} {GK G : List Int} {S : List Sp.Way} {FP FK FR : Nat → Prop} (h : SideAt w1 None w s p k q sg L1 L2 GK G S FP FK FR) (E : Pure w0 w1) : SideAt w0 None w s p k q sg L1 L2 GK G S FP FK FR := by
 have z := E.size
 have E2 := E.trans h.pure
 exact ⟨h.box, h.pool, h.know, h.ref, h.giv, E2, (Hst.start w0).again E2.keptP, fun b hb => ⟨by have := (h.oP b hb).1; omega, (h.oP b hb).2⟩, fun b hb => ⟨by have := (h.oK b hb).1; omega, (h.oK b hb).2⟩, fun b hb => ⟨by have := (h.oR b hb).1; omega, (h.oR b hb).2⟩, fun b hb => ⟨by have := (h.oG b hb).1; omega, (h.oG b hb).2⟩, ⟨by have := h.oS.1; omega, h.oS.2⟩⟩
theorem ops_copy {So : Nat → Prop} {so : Sl} {ops : List Sp.Op} {w w3 : World} {p1 : Addr} (ho : Lst So w 5 so (ops.map oprow)) (hn : ops.length ≤ 1000) (n3 : New w (.cells #[] 175) p1 w3) : ∃ s1 w4, (Builtin.append_ #[98, 98] 98 #[(Sl.mk (some p1) 0 0).v, so.v]).run Try.prog w3 = .ok s1.v w4 ∧ Rws w4 175 5 s1 (ops.map oprow) ∧ Pure w w4 ∧ Pure w w3 ∧ (∀ b, s1.blk b → w.heap.size ≤ b) ∧ ∀ H : Nat → Prop, (∀ b, H b → b < w.heap.size) → Kept H w3 w4 := by
 have E3 : Pure w w3 := Ext.new n3
 have hb := n3.at_size
 obtain ⟨s1, w4, hr, R, X, b4⟩ := (Rws.empty (sz := 5) n3).appendL (P := Try.prog) (ty := 98) slT_op (ho.pure E3) (oprow_sz _) (oprow_one _) (by simp; omega) (by simp [maxLen]; omega)
 have hx : ∀ b, (Sl.mk (some p1) 0 0).blk b → b = p1.block := fun b ⟨a, ha, e⟩ => by cases ha; exact e.symm
 refine ⟨s1, w4, hr, by simpa using R, E3.trans' X (fun i hi h => by have := hx i h; omega), E3, fun b h => (b4 b h).elim (fun h => by have := hx b h; omega) (fun h => by have := E3.size; omega), fun H hH => X.kept (fun b hb h => by have := hx b h; have := hH b hb; omega)⟩
end Go.Proofs
end
section
open Go Go.SE
namespace Go.Proofs
attribute [local irreducible] Calls
abbrev DoR (q : Addr) (F : Nat → Prop) (w : World) (R : Sp.Res) (r1 r2 : Int) (w' : World) : Prop := (r1, r2) = (R.1, R.2.1) ∧ ∃ F', PoolR w' q R.2.2 F' ∧ Ext F w w' ∧ ∀ b, F' b → F b ∨ w.heap.size ≤ b
theorem DoR.pre {q : Addr} {F : Nat → Prop} {w w1 w' : World} {R : Sp.Res} {r1 r2 : Int} (E : Pure w w1) (h : DoR q F w1 R r1 r2 w') : DoR q F w R r1 r2 w' := by
 obtain ⟨h1, F', h2, h3, h4⟩ := h
 exact ⟨h1, F', h2, E.pure.trans h3, fun b hb => (h4 b hb).imp_right (fun h => by have := E.size; omega)⟩
theorem tml_nth {S : Nat → Prop} {w : World} {s : Sl} {ts : List Int} (h : Lst S w 1 s (tmr ts)) {i t : Int} (hi : Sp.atM ts i = some t) : ∃ a, At s i 1 a ∧ S a.block ∧ w.cell? a = some (.int .i64 t) := by
 obtain ⟨h0, h1, rfl⟩ := Sp.atM_some hi
 obtain ⟨a, h2, h3, h4⟩ := tm_nth h h1
 exact ⟨a, by rw [Int.toNat_of_nonneg h0] at h2; exact h2, h3, h4⟩
section
variable {Sg Sm : Nat → Prop} (q : Addr) (sg sm : Sl) (G M : List Int) (w0 : World) {L : Sp.Pool} {F : Nat → Prop} (hP : PoolR w0 q L F) (hok : Sp.Ok L)
 (hg : Lst Sg w0 1 sg (tmr G)) (hm : Lst Sm w0 1 sm (tmr M))
include hP hok hg hm
theorem r09_j2 (co oa ob on : Int) (ox : ByteArray) (a1 rk ra rb kk kf kt kn : Int) (kx : ByteArray) (ka kb : Int) (H : Nat → Prop) (w : World) (hs : Hst w0 None w0 H w)
  (hlo : 0 ≤ co) (hhi : co ≤ 11) (hA : 4 ≤ co → Sp.atM M oa = some a1) (hB : co = 4 ∨ 9 ≤ co → ∃ b, Sp.atM M ob = some b) (hn : 4 ≤ co → rk = (Sp.nodeAt L M oa).kind ∧ ra = (Sp.nodeAt L M oa).a ∧ rb = (Sp.nodeAt L M oa).b)
  (hk : 9 ≤ co → (Sp.nodeAt L M ob).kind = 6 ∧ kf = (Sp.nodeAt L M ob).frm) (K : Int → Int → World → Prop) (hK : ∀ r1 r2 w', DoR q F w0 (Sp.doOp L G M ⟨co, oa, ob, on, ox⟩) r1 r2 w' → K r1 r2 w') :
  m_ref09_does_j2 (some q) sg sm co oa ob on ox a1 rk ra rb kk kf kt kn kx ka kb w0 H w K := by
 unfold m_ref09_does_j2
 have E := hs.first
 have hgl : sg.len = G.length := by rw [hg.len, tmr_len]
 have fin : ∀ {H' w' r1 r2}, Hst w0 H w H' w' → Sp.doOp L G M ⟨co, oa, ob, on, ox⟩ = (r1, r2, L) → K r1 r2 w' := fun hs' e => by
  have E' := E.hst hs'
  exact hK _ _ _ (by rw [e]; exact ⟨rfl, F, hP.pure E', E'.pure, fun b hb => .inl hb⟩)
 have mk : ∀ {H' w' w2} {e : Ending} {n : Sp.Node}, Hst w0 H w H' w' → Sp.doOp L G M ⟨co, oa, ob, on, ox⟩ = Sp.make L n → (∃ r1 r2 : Int, e = .returned (.tuple #[.int .i64 r1, .int .i64 r2]) ∧ DoR q F w' (Sp.make L n) r1 r2 w2) → ∃ r1 r2 : Int, e = .returned (.tuple #[.int .i64 r1, .int .i64 r2]) ∧ Kept H' w' w2 ∧ K r1 r2 w2 := by
  rintro H' w' w2 e n hs' e' ⟨r1, r2, he, h⟩
  have E' := E.hst hs'
  refine ⟨r1, r2, he, h.2.elim (fun F' h => h.2.1.kept (fun b hb hx => by have := hs'.old b hb; have := hP.lt hx; omega)), hK _ _ _ ?_⟩
  rw [e']; exact DoR.pre E' h
 refine ⟨fun h => ?_, fun h => ?_⟩
 ·have h : co = 0 := by simpa using h
  subst h
  have e0 : Sp.doOp L G M ⟨0, oa, ob, on, ox⟩ = Sp.knownOp L G ⟨0, oa, ob, on, ox⟩ := Sp.doOp0 rfl
  refine ⟨fun h => fun H' w' hs' => fin hs' ?_, fun h => ?_⟩
  ·rw [e0]; unfold Sp.knownOp
   rw [Bool.or_eq_true, decide_eq_true_eq, decide_eq_true_eq] at h
   simp only
   rw [Sp.atM_out (by omega)]; rfl
  ·rw [Bool.or_eq_false_iff, decide_eq_false_iff_not, decide_eq_false_iff_not] at h
   have e1 : Sp.atM G oa = some (G[oa.toNat]'(by omega)) := Sp.atM_in (by omega) (by omega)
   obtain ⟨a, ha, hSa, hc⟩ := tml_nth hg e1
   refine ⟨a, ha, fun H' w' hs' => ⟨_, (E.hst hs').cell hc (fun h => h), fin hs' ?_⟩⟩
   rw [e0]; unfold Sp.knownOp; simp only; rw [e1]
 have n0 : co ≠ 0 := by simpa using h
 refine ⟨fun h => ?_, fun h => ?_⟩
 ·have h : co = 1 := by simpa using h
  subst h
  exact (c_ref05_Make q ⟨1, oa, 0, 0, ⟨#[]⟩, 0, 0⟩ w (hP.pure E) hok).mono (fun e w2 h => mk hs.here (Sp.doOp1 rfl) h)
 have n1 : co ≠ 1 := by simpa using h
 refine ⟨fun h => ?_, fun h => ?_⟩
 ·have h : co = 2 := by simpa using h
  subst h
  exact (c_ref05_Make q ⟨2, 0, 0, on, ⟨#[]⟩, 0, 0⟩ w (hP.pure E) hok).mono (fun e w2 h => mk hs.here (Sp.doOp2 rfl) h)
 have n2 : co ≠ 2 := by simpa using h
 refine ⟨fun h => ?_, fun h => ?_⟩
 ·have h : co = 3 := by simpa using h
  subst h
  exact (c_ref05_Make q ⟨3, 0, 0, 0, ox, 0, 0⟩ w (hP.pure E) hok).mono (fun e w2 h => mk hs.here (Sp.doOp3 rfl) h)
 have n3 : co ≠ 3 := by simpa using h
 have hAA := hA (by omega)
 obtain ⟨rfl, rfl, rfl⟩ := hn (by omega)
 refine ⟨fun h => ?_, fun h => ?_⟩
 ·have h : co = 4 := by simpa using h
  subst h
  obtain ⟨b1, hb1⟩ := hB (.inl rfl)
  obtain ⟨a, ha, hSa, hc⟩ := tml_nth hm hb1
  refine ⟨a, ha, b1, E.cell hc (fun h => h), ?_⟩
  have e4 : Sp.doOp L G M ⟨4, oa, ob, on, ox⟩ = Sp.make L ⟨4, 0, 0, 0, ⟨#[]⟩, a1, b1⟩ := by
   rw [Sp.doOp4 rfl]
   unfold Sp.pairOp; simp only; rw [hAA]; simp only; rw [hb1]
  exact (c_ref05_Make q ⟨4, 0, 0, 0, ⟨#[]⟩, a1, b1⟩ w (hP.pure E) hok).mono (fun e w2 h => mk hs.here e4 h)
 have n4 : co ≠ 4 := by simpa using h
 refine ⟨fun h => ?_, fun h => ?_⟩
 ·have h : co = 5 := by simpa using h
  subst h
  have e5 : Sp.doOp L G M ⟨5, oa, ob, on, ox⟩ = Sp.make L ⟨5, 0, 0, 0, ⟨#[]⟩, a1, 0⟩ := by
   rw [Sp.doOp5 rfl]
   unfold Sp.hashOp; simp only; rw [hAA]
  exact (c_ref05_Make q ⟨5, 0, 0, 0, ⟨#[]⟩, a1, 0⟩ w (hP.pure E) hok).mono (fun e w2 h => mk hs.here e5 h)
 have n5 : co ≠ 5 := by simpa using h
 refine ⟨fun h => ?_, fun h => ?_⟩
 ·have h67 : co = 6 ∨ co = 7 := by
   by_cases h6 : co = 6
   ·exact .inl h6
   ·right
    rw [show ((co : Int) == 6) = false by simpa using h6] at h
    simpa using h
  have e6 : Sp.doOp L G M ⟨co, oa, ob, on, ox⟩ = Sp.partOp L M ⟨co, oa, ob, on, ox⟩ (decide (co = 7)) := by
   rcases h67 with h | h <;> subst h
   ·exact Sp.doOp6 rfl
   ·exact Sp.doOp7 rfl
  refine ⟨fun h => fun H' w' hs' => fin hs' ?_, fun h => ?_⟩
  ·rw [e6]; unfold Sp.partOp; simp only
   rw [if_neg (by simpa using h)]; rfl
  ·have h4 : (Sp.nodeAt L M oa).kind = 4 := by simpa using h
   refine ⟨fun h => fun H' w' hs' => fin hs' ?_, fun h => fun H' w' hs' => fin hs' ?_⟩
   ·have h : co = 6 := by simpa using h
    rw [e6]; unfold Sp.partOp; simp only; rw [if_pos h4, decide_eq_false (by omega)]; rfl
   ·have h : co ≠ 6 := by simpa using h
    rw [e6]; unfold Sp.partOp; simp only; rw [if_pos h4, decide_eq_true (by omega)]; rfl
 have n67 : co ≠ 6 ∧ co ≠ 7 := by
  by_cases h6 : co = 6
  ·subst h6; simp at h
  ·rw [show ((co : Int) == 6) = false by simpa using h6] at h
   exact ⟨h6, by simpa using h⟩
 refine ⟨fun h => ?_, fun h => ?_⟩
 ·have h : co = 8 := by simpa using h
  subst h
  have hsk : Sp.showsK (Sp.nodeAt L M oa).kind = !(((((Sp.nodeAt L M oa).kind : Int) != 7) && (((Sp.nodeAt L M oa).kind : Int) != 8)) && (((Sp.nodeAt L M oa).kind : Int) != 9)) := by
   unfold Sp.showsK
   simp only [bne, Bool.not_and, Bool.not_not]
  refine ⟨fun h => fun H' w' hs' => fin hs' ?_, fun h => fun H' w' hs' => fin hs' ?_⟩
  ·rw [Sp.doOp8 rfl]
   unfold Sp.shownOp; simp only
   rw [if_neg (by rw [hsk, h]; simp)]; rfl
  ·rw [Sp.doOp8 rfl]
   unfold Sp.shownOp; simp only
   rw [if_pos (by rw [hsk, h]; rfl)]
 have n8 : co ≠ 8 := by simpa using h
 obtain ⟨hk6, rfl⟩ := hk (by omega)
 have ek : ∀ mk, Sp.keyedOp L M ⟨co, oa, ob, on, ox⟩ mk = Sp.make L (mk (Sp.nodeAt L M ob).frm a1) := fun mk => by
  unfold Sp.keyedOp; simp only; rw [hAA]; simp only; rw [if_pos hk6]
 refine ⟨fun h => fun H' w' hs' => ?_, fun h => ?_⟩
 ·have h : co = 9 := by simpa using h
  subst h
  exact (c_ref05_Make q ⟨7, (Sp.nodeAt L M ob).frm, 0, 0, ⟨#[]⟩, a1, 0⟩ w' (hP.pure (E.hst hs')) hok).mono (fun e w2 h => mk hs' ((Sp.doOp9 rfl).trans (ek _)) h)
 have n9 : co ≠ 9 := by simpa using h
 have mk2 : ∀ {H' w' w1 w3 w2} {e : Ending} {n : Sp.Node}, Hst w0 H w H' w' → Pure w' w1 → w1 = w3 → Sp.doOp L G M ⟨co, oa, ob, on, ox⟩ = Sp.make L n → (∃ r1 r2 : Int, e = .returned (.tuple #[.int .i64 r1, .int .i64 r2]) ∧ DoR q F w3 (Sp.make L n) r1 r2 w2) → ∃ r1 r2 : Int, e = .returned (.tuple #[.int .i64 r1, .int .i64 r2]) ∧ True ∧ Kept H' w3 w2 ∧ K r1 r2 w2 := by
  rintro H' w' w1 _ w2 e n hs' E1 rfl e' ⟨r1, r2, he, h⟩
  have E' := (E.hst hs').trans E1
  refine ⟨r1, r2, he, trivial, h.2.elim (fun F' h => h.2.1.kept (fun b hb hx => by have := hs'.old b hb; have := hP.lt hx; omega)), hK _ _ _ ?_⟩
  rw [e']; exact DoR.pre E' h
 refine ⟨fun h => fun H' w' hs' => ⟨fun _ => True, trivial, ?_⟩, fun h => fun H' w' hs' => ⟨fun _ => True, trivial, ?_⟩⟩
 ·have h : co = 10 := by simpa using h
  subst h
  rintro _ rfl
  refine (p_ref09_who on _).mono ?_
  rintro _ w2 ⟨rfl, E2⟩
  have Ed : Pure w' w'.drew := Ext.drew w'
  refine ⟨_, rfl, trivial, E2.keptP, ?_⟩
  exact (c_ref05_Make q ⟨8, (Sp.nodeAt L M ob).frm, s_ref09_who on, 0, ⟨#[]⟩, a1, 0⟩ w2 (hP.pure (((E.hst hs').trans Ed).trans E2)) hok).mono (fun e w3 h => mk2 hs' (Ed.trans E2) rfl ((Sp.doOp10 rfl).trans (ek _)) h)
 ·have n10 : co ≠ 10 := by simpa using h
  have h : co = 11 := by omega
  subst h
  rintro _ rfl
  refine (p_ref09_who on _).mono ?_
  rintro _ w2 ⟨rfl, E2⟩
  have Ed : Pure w' w'.drew := Ext.drew w'
  refine ⟨_, rfl, trivial, E2.keptP, ?_⟩
  exact (c_ref05_Make q ⟨9, s_ref09_who on, (Sp.nodeAt L M ob).frm, 0, ⟨#[]⟩, a1, 0⟩ w2 (hP.pure (((E.hst hs').trans Ed).trans E2)) hok).mono (fun e w3 h => mk2 hs' (Ed.trans E2) rfl ((Sp.doOp11 rfl).trans (ek _)) h)
theorem c_r09_does (o : Sp.Op) : Calls Try.prog 105 #[.pointer (some q), sg.v, sm.v, opv o] w0 (fun e w' => ∃ r1 : Int, ∃ r2 : Int, e = .returned (.tuple #[.int .i64 r1, .int .i64 r2]) ∧ DoR q F w0 (Sp.doOp L G M o) r1 r2 w') := by
 obtain ⟨co, oa, ob, on, ox⟩ := o
 refine w_ref09_does _ _ _ co oa ob on ox w0 (DoR q F w0 (Sp.doOp L G M ⟨co, oa, ob, on, ox⟩)) ?_
 unfold m_ref09_does
 have hml : sm.len = M.length := by rw [hm.len, tmr_len]
 have j1 : ∀ (a1 : Int) (H : Nat → Prop) (w : World), Hst w0 None w0 H w → 0 ≤ co → co ≤ 11 → (4 ≤ co → Sp.atM M oa = some a1) → (co = 4 ∨ 9 ≤ co → ∃ b, Sp.atM M ob = some b) → m_ref09_does_j1 (some q) sg sm co oa ob on ox a1 w0 H w (DoR q F w0 (Sp.doOp L G M ⟨co, oa, ob, on, ox⟩)) := by
  intro a1 H w hs hlo hhi hA hB
  unfold m_ref09_does_j1
  refine (c_ref05_Node q a1 w (hP.pure hs.first) hok).mono ?_
  rintro _ w2 ⟨k, f, t', u, x, a, b, r, rfl, ⟨hnd, _⟩, E2⟩
  have hs2 := hs.pure E2
  have hn : 4 ≤ co → k = (Sp.nodeAt L M oa).kind ∧ a = (Sp.nodeAt L M oa).a ∧ b = (Sp.nodeAt L M oa).b := fun h => by
   have : Sp.nodeAt L M oa = Sp.nodeOf L a1 := by unfold Sp.nodeAt; rw [hA h]
   rw [this, ← hnd]; exact ⟨rfl, rfl, rfl⟩
  refine ⟨_, _, _, _, _, _, _, _, rfl, E2.keptP, fun h => ?_, fun h => fun H3 w3 hs3 => ?_⟩
  ·have h9 : 9 ≤ co := by simpa using h
   obtain ⟨b1, hb1⟩ := hB (.inr h9)
   obtain ⟨ad, ha, hSa, hc⟩ := tml_nth hm hb1
   refine ⟨ad, ha, fun H3 w3 hs3 => ?_⟩
   have E3 := hs2.first.hst hs3
   refine ⟨b1, E3.cell hc (fun h => h), ?_⟩
   refine (c_ref05_Node q b1 w3 (hP.pure E3) hok).mono ?_
   rintro _ w4 ⟨k2, f2, t2, u2, x2, a2, b2, r2, rfl, ⟨hnd2, _⟩, E4⟩
   have hnb : Sp.nodeAt L M ob = Sp.nodeOf L b1 := by unfold Sp.nodeAt; rw [hb1]
   have hs4 := (hs2.trans hs3).pure E4
   refine ⟨_, _, _, _, _, _, _, _, rfl, E4.keptP, fun h => fun w5 hs5 => ?_, fun h => fun w5 hs5 => ?_⟩
   ·have hk : k2 ≠ 6 := by simpa using h
    have hno : Sp.doOp L G M ⟨co, oa, ob, on, ox⟩ = Sp.noOp L := Sp.doOp_key h9 hhi (by rw [hnb, ← hnd2]; exact hk)
    rw [hno]
    have E5 := hs4.first.hst hs5
    exact ⟨rfl, F, hP.pure E5, E5.pure, fun b hb => .inl hb⟩
   ·have hk : k2 = 6 := by simpa using h
    exact r09_j2 q sg sm G M w0 hP hok hg hm co oa ob on ox a1 k a b _ _ _ _ _ _ _ _ w5 (hs4.trans hs5) hlo hhi hA hB hn (fun _ => by rw [hnb, ← hnd2]; exact ⟨hk, rfl⟩) _ (fun _ _ _ h => h)
  ·have h9 : ¬ 9 ≤ co := by simpa using h
   exact r09_j2 q sg sm G M w0 hP hok hg hm co oa ob on ox a1 k a b _ _ _ _ _ _ _ _ w3 (hs2.trans hs3) hlo hhi hA hB hn (fun h => absurd h h9) _ (fun _ _ _ h => h)
 have h2 : s_ref09_two co = true ↔ (co = 4 ∨ (9 ≤ co ∧ co ≤ 11)) := by
  unfold s_ref09_two
  simp only [Bool.or_eq_true, Bool.and_eq_true, beq_iff_eq, decide_eq_true_eq, ge_iff_le]
 rintro _ rfl
 refine ⟨fun h => fun H w hs => ?_, fun h => ?_⟩
 ·have hno : Sp.doOp L G M ⟨co, oa, ob, on, ox⟩ = Sp.noOp L := by
   simp only [Bool.or_eq_true, Bool.and_eq_true, decide_eq_true_eq, ge_iff_le, h2, gt_iff_lt] at h
   rcases h with ((h | h) | ⟨⟨h4, h11⟩, h⟩) | ⟨hc, h⟩
   ·exact Sp.doOp_out (.inl h)
   ·exact Sp.doOp_out (.inr h)
   ·exact Sp.doOp_a h4 h11 (Sp.atM_out (by show oa < 0 ∨ (M.length : Int) ≤ oa; omega))
   ·exact Sp.doOp_b (Sp.atM_out (by show ob < 0 ∨ (M.length : Int) ≤ ob; omega)) hc
  rw [hno]
  exact ⟨rfl, F, hP.pure hs.first, hs.first.pure, fun b hb => .inl hb⟩
 ·simp only [Bool.or_eq_false_iff, Bool.and_eq_false_iff, decide_eq_false_iff_not, ge_iff_le, gt_iff_lt] at h
  obtain ⟨⟨⟨hlo, hhi⟩, ha⟩, hb⟩ := h
  have hB : co = 4 ∨ 9 ≤ co → ∃ b, Sp.atM M ob = some b := fun h => by
   have ht : s_ref09_two co = true := h2.2 (by omega)
   rw [ht] at hb
   rcases hb with hb | hb
   ·cases hb
   ·exact ⟨_, Sp.atM_in (by omega) (by omega)⟩
  refine ⟨fun h => ?_, fun h => fun H w hs => ?_⟩
  ·rw [Bool.and_eq_true, decide_eq_true_eq, decide_eq_true_eq] at h
   have e1 : Sp.atM M oa = some (M[oa.toNat]'(by omega)) := Sp.atM_in (by omega) (by omega)
   obtain ⟨ad, had, hSa, hc⟩ := tml_nth hm e1
   refine ⟨ad, had, fun H w hs => ⟨_, hs.first.cell hc (fun h => h), ?_⟩⟩
   exact j1 _ H w hs (by omega) (by omega) (fun _ => e1) hB
  ·rw [Bool.and_eq_false_iff, decide_eq_false_iff_not, decide_eq_false_iff_not] at h
   exact j1 0 H w hs (by omega) (by omega) (fun h4 => by omega) hB
end
end Go.Proofs
end
section
open Go Go.SE
namespace Go.Proofs
attribute [local irreducible] Calls
structure RanR (w0 : World) (q : Addr) (F : Nat → Prop) (R : List Int × Int × Sp.Pool) (s : Sl) (r2 : Int) (w' : World) : Prop where
 err : r2 = R.2.1
 pool : ∃ F', PoolR w' q R.2.2 F' ∧ (∀ b, F' b → F b ∨ w0.heap.size ≤ b) ∧ ∀ b, s.blk b → ¬ F' b
 rows : Rws w' 41 1 s (tmr R.1)
 own : ∀ b, s.blk b → w0.heap.size ≤ b
 fr : Ext F w0 w'
section
variable {Sg S0 : Nat → Prop} (q : Addr) (sg sl : Sl) (G : List Int) (l : List Sp.Op) (w0 : World) {L : Sp.Pool} {F : Nat → Prop} (hW : Sp.Wf L) (hP : PoolR w0 q L F)
 (hg : Lst Sg w0 1 sg (tmr G)) (hl : Lst S0 w0 5 sl (l.map oprow)) (hSg : ∀ b, Sg b → b < w0.heap.size ∧ ¬ F b) (hS0 : ∀ b, S0 b → b < w0.heap.size ∧ ¬ F b) (hn : l.length ≤ 1000)
include hW hP hg hl hSg hS0 hn
theorem c_r09_Run : Calls Try.prog 57 #[.pointer (some q), sg.v, sl.v] w0 (fun e w' => ∃ s : Sl, ∃ r2 : Int, e = .returned (.tuple #[s.v, .int .i64 r2]) ∧ RanR w0 q F (Sp.runOps L G [] l) s r2 w') := by
 refine w_ref09_Run _ _ _ w0 (fun s r2 w' => RanR w0 q F (Sp.runOps L G [] l) s r2 w') ?_
 unfold m_ref09_Run
 have hnil : ∀ b, ¬ Sl.nil.blk b := fun b hb => by obtain ⟨a, h, _⟩ := hb; cases h
 have hll : sl.len = l.length := by rw [hl.len]; simp
 refine ⟨fun sm x w => ∃ (j : Nat) (M : List Int) (L1 : Sp.Pool) (F1 : Nat → Prop), x = j ∧ j ≤ l.length ∧ M.length = j ∧ Sp.Wf L1 ∧ Sp.runOps L G [] l = Sp.runOps L1 G M (l.drop j) ∧ RanR w0 q F (M, 0, L1) sm 0 w, fun _ x _ => ((l.length : Int) - x).toNat, ⟨0, [], L, F, rfl, Nat.zero_le _, rfl, hW, rfl, rfl, ⟨F, hP, fun b hb => .inl hb, fun b hb => (hnil b hb).elim⟩, Rws.nil _ _ _, fun b hb => (hnil b hb).elim, Ext.refl _⟩, ?_⟩
 rintro sm _ w ⟨j, M, L1, _, rfl, hj, hMj, hW1, hrun, R⟩
 unfold m_ref09_Run_l1
 obtain ⟨_, ⟨F1, hP1, hF1, hd1⟩, hrows, hown, X⟩ := R
 simp only at hP1 hrows
 refine ⟨fun h => ?_, fun h => ?_⟩
 ·have hlt := lt_of_dec hll h
  obtain ⟨a, hat, hSa, hrow⟩ := hl.nth hlt
  have hrow' : Row w a (oprow l[j]) := X.row hrow (hS0 _ hSa).2
  refine ⟨a, hat, l[j].code, l[j].a, l[j].b, l[j].num, l[j].text, hrow', ?_⟩
  rw [Sp.runOps_step hlt] at hrun
  generalize l[j] = o at *
  have z := X.size
  refine (c_r09_does q sg sm G M w hP1 hW1.ok (hg.ext X (fun b hb => (hSg b hb).2)) hrows.lst o).mono ?_
  rintro _ w1 ⟨r1, r2, rfl, hr, F2, hP2, X2, hF2⟩
  have hW2 := Sp.doOp_wf hW1 G M o
  generalize Sp.doOp L1 G M o = D at *
  obtain ⟨d1, d2, L2⟩ := D
  simp only [Prod.mk.injEq] at hr
  obtain ⟨rfl, rfl⟩ := hr
  simp only at hrun hW2 hP2
  have z2 := X2.size
  have hd2 : ∀ b, sm.blk b → ¬ F2 b := fun b hb hf => (hF2 b hf).elim (hd1 b hb) (fun h => by have := hrows.lt hb; omega)
  have hF2' : ∀ b, F2 b → F b ∨ w0.heap.size ≤ b := fun b hb => (hF2 b hb).elim (hF1 b) (fun h => .inr (by omega))
  have X02 : Ext F w0 w1 := X.trans' X2 (fun i hi hb => (hF1 i hb).elim id (fun h => by omega))
  have hrows2 := hrows.ext X2 hd1
  refine ⟨_, _, rfl, fun h => ?_, fun h => ?_⟩
  ·rw [if_pos (by simpa using h)] at hrun
   rw [hrun]
   exact ⟨rfl, ⟨F2, hP2, hF2', hd2⟩, hrows2, hown, X02⟩
  ·rw [if_neg (by simpa using h)] at hrun
   intro p2 w2 n2
   have En : Pure w1 w2 := Ext.new n2
   obtain ⟨s1, w3, hr3, R3, X3, hb3⟩ := (hrows2.pure En).append (P := Try.prog) (ty := 26) (c := 1) slT_tm (r := [.int .i64 _]) (Box.of_new n2).row rfl rfl (by rw [tmr_len]; omega) (by rw [tmr_len]; simp [maxLen]; omega)
   refine ⟨s1, w3, hr3, ?_⟩
   rw [wrap_succ hlt (by omega)]
   have z3 := En.size
   refine ⟨⟨j + 1, M ++ [_], L2, F2, rfl, hlt, by simp [hMj], hW2, hrun, rfl, ⟨F2, (hP2.pure En).ext X3 (fun b hb hs => hd2 b hs hb), hF2', fun b hb => (hb3 b hb).elim (hd2 b) (fun h hf => by have := hP2.lt hf; omega)⟩, ?_, fun b hb => (hb3 b hb).elim (hown b) (fun h => by omega), ?_⟩, lt_dec hlt⟩
   ·simp only [tmr, List.map_append, List.map_cons, List.map_nil] at R3 ⊢
    exact R3
   ·exact (X02.thenPure En).trans' X3 (fun i hi hs => by have := hown i hs; omega)
 ·have hge := eq_of_dec hll hj h
  subst hge
  have e : Sp.runOps L G [] l = (M, 0, L1) := by rw [hrun, List.drop_length]; rfl
  rw [e]
  exact ⟨rfl, ⟨F1, hP1, hF1, hd1⟩, hrows, hown, X⟩
theorem c_r09_Eval : Calls Try.prog 55 #[.pointer (some q), sg.v, sl.v] w0 (fun e w' => ∃ r1 : Int, ∃ r2 : Int, ∃ r3 : Int, e = .returned (.tuple #[.int .i64 r1, .int .i64 r2, .int .i64 r3]) ∧ ((r1, r2, r3) = ((Sp.evalOps L G l).1, (Sp.evalOps L G l).2.1, (Sp.evalOps L G l).2.2.1) ∧ ∃ F', PoolR w' q (Sp.evalOps L G l).2.2.2 F' ∧ Ext F w0 w' ∧ ∀ b, F' b → F b ∨ w0.heap.size ≤ b)) := by
 refine w_ref09_Eval _ _ _ w0 (fun r1 r2 r3 w' => (r1, r2, r3) = ((Sp.evalOps L G l).1, (Sp.evalOps L G l).2.1, (Sp.evalOps L G l).2.2.1) ∧ ∃ F', PoolR w' q (Sp.evalOps L G l).2.2.2 F' ∧ Ext F w0 w' ∧ ∀ b, F' b → F b ∨ w0.heap.size ≤ b) ?_
 unfold m_ref09_Eval
 have hll : sl.len = l.length := by rw [hl.len]; simp
 unfold Sp.evalOps
 rw [hll]
 refine ⟨fun h => ?_, fun h => ?_⟩
 ·rw [if_pos (by have := of_decide_eq_true h; omega)]
  exact ⟨rfl, F, hP, Ext.refl _, fun b hb => .inl hb⟩
 rw [if_neg (by have := of_decide_eq_false h; omega)]
 refine ⟨fun h => ?_, fun h => ?_⟩
 ·rw [if_pos (by simpa using h)]
  exact ⟨rfl, F, hP, Ext.refl _, fun b hb => .inl hb⟩
 have h2 : l.length ≠ 0 := by simpa using h
 rw [if_neg h2]
 refine (c_r09_Run q sg sl G l w0 hW hP hg hl hSg hS0 hn).mono ?_
 rintro _ w2 ⟨s, r2, rfl, hR⟩
 obtain ⟨he, ⟨F', hP', hF', hdj⟩, hrows, hown, X⟩ := hR
 refine ⟨s, r2, rfl, ?_⟩
 have hlen := Sp.runOps_len G l L []
 have fin : ∃ F', PoolR w2 q (Sp.runOps L G [] l).2.2 F' ∧ Ext F w0 w2 ∧ ∀ b, F' b → F b ∨ w0.heap.size ≤ b := ⟨F', hP', X, hF'⟩
 generalize Sp.runOps L G [] l = R at *
 obtain ⟨M, e, L2⟩ := R
 simp only at he hrows hlen fin hP'
 subst he
 simp only [List.length_nil, Nat.zero_add] at hlen
 have hsl : s.len = M.length := by rw [hrows.len, tmr_len]
 refine ⟨fun h => ?_, fun h => ?_⟩
 ·rw [if_pos (by simpa using h)]
  exact ⟨by rw [hsl], fin⟩
 ·have h0 : r2 = 0 := by simpa using h
  rw [if_neg (by simpa using h0)]
  have hM := hlen.2 h0
  have hne : M ≠ [] := fun e => by rw [e] at hM; simp at hM; omega
  rw [show IntKind.i64.wrap ((s.len : Int) - 1) = (((l.length - 1 : Nat)) : Int) by rw [hsl, hM, IntWalk.i64_in _ (by omega)]; omega]
  have hat : Sp.atM M ((l.length - 1 : Nat) : Int) = some (M.getLast hne) := by
   rw [Sp.atM_in (by omega) (by omega)]
   simp [List.getLast_eq_getElem, hM]
  obtain ⟨a, ha, hc⟩ := tms_nth hrows hat
  refine ⟨a, ha, _, hc, ?_, fin⟩
  rw [List.getLast?_eq_some_getLast hne]; rfl
end
theorem c_r09_Same {S1 S2 : Nat → Prop} (s1 s2 : Sl) (l : List Sp.Op) (w0 : World) (h1 : Lst S1 w0 5 s1 (l.map oprow)) (h2 : Lst S2 w0 5 s2 (l.map oprow)) (hn : l.length ≤ 1000000) :
  Calls Try.prog 60 #[s1.v, s2.v] w0 (fun e w' => ∃ r : Bool, e = .returned (.bool r) ∧ (r = true ∧ Pure w0 w')) := by
 refine w_ref09_Same _ _ w0 (fun r w' => r = true ∧ Pure w0 w') ?_
 unfold m_ref09_Same
 have l1 : s1.len = l.length := by rw [h1.len]; simp
 have l2 : s2.len = l.length := by rw [h2.len]; simp
 refine Br.f (by rw [l1, l2]; simp) ?_
 refine ⟨fun i _ w => ∃ j : Nat, i = j ∧ j ≤ l.length ∧ Pure w0 w, fun i _ => ((l.length : Int) - i).toNat, ⟨0, rfl, Nat.zero_le _, Ext.refl _⟩, ?_⟩
 rintro _ H w _ ⟨j, rfl, hj, E⟩
 unfold m_ref09_Same_l1
 refine ⟨fun h => ?_, fun h => ⟨rfl, E⟩⟩
 have hlt := lt_of_dec l1 h
 obtain ⟨a, hat, _, hrow⟩ := h1.nth hlt
 obtain ⟨b, hbt, _, hrow2⟩ := h2.nth hlt
 refine ⟨a, hat, fun w1 hs1 => ?_⟩
 have E1 := E.hst hs1
 refine ⟨_, _, _, _, _, E1.row hrow (fun h => h), b, hbt, _, _, _, _, _, E1.row hrow2 (fun h => h), ?_⟩
 refine Br.f (by simp) ?_
 rw [wrap_succ hlt (by omega)]
 exact ⟨⟨j + 1, rfl, hlt, E1⟩, lt_dec hlt⟩
end Go.Proofs
end
section
open Go Go.SE
namespace Go.Proofs
attribute [local irreducible] Calls
theorem c_term_Len (p : Addr) (w : World) {L : Sp.Pool} {F : Nat → Prop} (hP : PoolAt w p L F) : Calls Try.prog 59 #[.pointer (some p)] w (fun e w' => ∃ r : Int, e = .returned (.int .i64 r) ∧ (r = L.length ∧ w' = w)) := by
 refine w_term_Pool_Len _ w (fun r w' => r = L.length ∧ w' = w) ?_
 unfold m_term_Pool_Len
 obtain ⟨s, m, h, _⟩ := hP
 refine Br.f rfl ⟨p, rfl, s, h.box.cell0, ?_, rfl⟩
 have := h.rows.len
 rw [this]; simp
theorem c_kids (p : Addr) (t : Int) (w : World) {L : Sp.Pool} {F : Nat → Prop} (hP : PoolAt w p L F) (hok : Sp.Ok L) : Calls Try.prog 106 #[.pointer (some p), .int .i64 t] w (fun e w' => ∃ s : Sl, e = .returned s.v ∧ (Lst (fun b => w.heap.size ≤ b ∧ b < w'.heap.size) w' 1 s (tmr (Sp.kidsOf (Sp.nodeOf L t))) ∧ Pure w w')) := by
 refine w_term_Pool_kids _ _ w (fun s w' => Lst (fun b => w.heap.size ≤ b ∧ b < w'.heap.size) w' 1 s (tmr (Sp.kidsOf (Sp.nodeOf L t))) ∧ Pure w w') ?_
 unfold m_term_Pool_kids
 refine (c_Node p t w hP hok).mono ?_
 rintro _ w1 ⟨k, f, t', u, x, a, b, r, rfl, ⟨hn, _⟩, E1⟩
 refine ⟨_, _, _, _, _, _, _, _, rfl, ?_⟩
 intro p2 w2 h2
 have E2 : Pure w w2 := E1.trans (Ext.new h2)
 have o2 := New.own E1 h2
 refine bx 7 (Box.of_new h2) rfl rfl (fun w3 b2 E => ?_)
 have E3 : Pure w w3 := E2.own o2 E
 refine ⟨k, b2.cell0, ?_⟩
 refine (c_shapeOf k w3).mono ?_
 rintro _ w4 ⟨s1, s2, s3, s4, s5, ok, rfl, ⟨hs, _⟩, E4⟩
 refine ⟨_, _, _, _, _, _, rfl, ?_⟩
 have b24 := b2.pure E4
 intro p3 w5 h5
 have E5 : Pure w4 w5 := Ext.new h5
 have b25 := b24.pure E5
 have ne : p2.block ≠ p3.block := h5.ne b24.blk
 have E05 : Pure w w5 := (E3.trans E4).trans E5
 have o5 := New.own (E3.trans E4) h5
 refine bx 5 (Box.of_new h5) rfl rfl (fun w6 b3 E => ?_)
 have b26 := b25.ext E ne
 have E06 : Pure w w6 := E05.own o5 E
 refine ⟨a, b26.cell rfl, b, b26.cell rfl, ?_⟩
 intro p4 w7 h7
 have E7 : Pure w6 w7 := Ext.new h7
 have b4 := Box.of_new h7
 have hsh : Sp.shapeOf k = ⟨s1, s2, s3, s4, s5⟩ := hs.symm
 have hk5 : s5 = 0 ∨ s5 = 1 ∨ s5 = 2 := by have := Sp.kids_le k; rw [hsh] at this; exact this
 refine ⟨s5, (b3.pure E7).cell rfl, _, run_cut2 p4 s5 w7 hk5, ?_, E06.trans E7⟩
 have hks : Sp.kidsOf (Sp.nodeOf L t) = [a, b].take s5.toNat := by rw [← hn]; simp [Sp.kidsOf, hsh]
 rw [hks]
 have z := h7.at_size
 have z6 := E06.size
 have zl := b4.lt
 refine ⟨by rcases hk5 with rfl | rfl | rfl <;> rfl, fun i hi => ?_⟩
 rw [tmr_len] at hi
 have hi2 : i < s5.toNat := by simp at hi; omega
 refine ⟨p4.add (i * 1), ⟨by omega, by show (i : Int) < (s5.toNat : Int); omega, p4, rfl, rfl⟩, by rw [add_block]; omega, ?_⟩
 intro j hj
 have hj1 : j < 1 := by simp only [tmr, List.getElem_map, List.length_cons, List.length_nil] at hj; omega
 have hj0 : j = 0 := by omega
 subst hj0
 rw [add_add]
 have h01 : i = 0 ∨ i = 1 := by omega
 rcases h01 with rfl | rfl
 ·rw [b4.cell (i := 0 * 1 + 0) rfl]; simp [tmr]
 ·rw [b4.cell (i := 1 * 1 + 0) rfl]; simp [tmr]
theorem c_Tree (p : Addr) {L : Sp.Pool} (hW : Sp.Wf L) : ∀ (n : Nat) (t : Int) (w0 : World) (F : Nat → Prop), t.toNat = n → PoolAt w0 p L F →
  Calls Try.prog 62 #[.pointer (some p), .int .i64 t] w0 (RetT w0.heap.size w0 (Sp.treeOf L t)) := by
 intro n
 induction n using Nat.strongRecOn with
 | _ n ih =>
 intro t w0 F hn hP
 suffices key : ∀ K : Int → Int → Int → Int → ByteArray → Sl → World → Prop, (∀ k f t' u x s' w' ks, Sp.treeOf L t = .mk k f t' u x ks → TreeAt (w0.heap.size ≤ ·) w' s' (.mk k f t' u x ks) → Pure w0 w' → K k f t' u x s' w') → m_term_Pool_Tree (some p) t w0 K by
  refine (w_term_Pool_Tree _ _ w0 (fun k f t' u x s' w' => ∃ ks, Sp.treeOf L t = .mk k f t' u x ks ∧ TreeAt (w0.heap.size ≤ ·) w' s' (.mk k f t' u x ks) ∧ Pure w0 w') (key _ (fun k f t' u x s' w' ks h1 h2 h3 => ⟨ks, h1, h2, h3⟩))).mono ?_
  rintro _ w' ⟨k, f, t', u, x, s', rfl, ks, h1, h2, h3⟩
  rw [h1]
  exact ⟨s', rfl, h2, h3⟩
 intro K hK
 have hok := hW.ok
 have hnil : ∀ b, ¬ Sl.nil.blk b := fun b hb => by obtain ⟨a, h, _⟩ := hb; cases h
 unfold m_term_Pool_Tree
 intro p2 w1 h1
 have E1 : Pure w0 w1 := Ext.new h1
 have b1 := Box.of_new h1
 have z1 := h1.at_size
 have l1 := b1.lt
 refine (c_Node p t w1 (hP.pure E1) hok).mono ?_
 rintro _ w2 ⟨k, f, t', u, x, a, b, r, rfl, ⟨hnd, hr⟩, E2⟩
 refine ⟨_, _, _, _, _, _, _, _, rfl, ?_⟩
 intro p3 w3 h3
 have b2 := b1.pure E2
 have n23 : p2.block ≠ p3.block := h3.ne b2.blk
 have E3 : Pure w0 w3 := (E1.trans E2).trans (Ext.new h3)
 have o3 := New.own (E1.trans E2) h3
 have b23 := b2.pure (Ext.new h3 : Pure w2 w3)
 refine bx 7 (Box.of_new h3) rfl rfl (fun w4 b3 X4 => ?_)
 have b24 := b23.ext X4 n23
 have E4 : Pure w0 w4 := E3.own o3 X4
 refine ⟨fun h => ?_, fun h => ?_⟩
 ·have hin : Sp.inP L t = false := by rw [← hr]; simpa using h
  refine bx 6 b24 rfl rfl (fun w5 b5 X5 => ⟨_, _, _, _, _, Sl.nil, b5.row, ?_⟩)
  exact hK _ _ _ _ _ _ _ [] (by rw [Sp.treeOf_none hin]; rfl) TreeAt.leaf (E4.own (by omega) X5)
 ·have hin : Sp.inP L t = true := by rw [← hr]; simpa using h
  have htr := Sp.treeOf_in hW hin
  have hnode := hW.node hin
  obtain ⟨_, _, _, _, hkid, _, _⟩ := hnode
  have hpos := Sp.inP_iff.1 hin
  refine ⟨k, b3.cell0, f, b3.cell rfl, t', b3.cell rfl, u, b3.cell rfl, x, b3.cell rfl, ?_⟩
  intro p4 w6 h6
  have n24 : p2.block ≠ p4.block := h6.ne b24.blk
  have E6 : Pure w4 w6 := Ext.new h6
  have o6 := New.own E4 h6
  have b26 := b24.pure E6
  refine bx 6 (Box.of_new h6) rfl rfl (fun w7 b4 X7 => ?_)
  have b27 := b26.ext X7 n24
  have E7 : Pure w0 w7 := (E4.trans E6).own o6 X7
  refine (c_kids p t w7 (hP.pure E7) hok).mono ?_
  rintro _ w8 ⟨r2, rfl, hL, E8⟩
  refine ⟨r2, rfl, ?_⟩
  generalize hks : Sp.kidsOf (Sp.nodeOf L t) = ks at *
  have hkl : ks.length ≤ 2 := by rw [← hks, Sp.kidsOf_len]; have := Sp.kids_le (Sp.nodeOf L t).kind; omega
  have hrl : r2.len = ks.length := by rw [hL.len, tmr_len]
  have q7 := b4.lt
  have q8 := E8.size
  refine ⟨fun i w => ∃ (j : Nat) (xs : Sl) (ps : List (Sp.Tree × Sl)), i = j ∧ j ≤ ks.length ∧ Pure w0 w ∧ w8.heap.size ≤ w.heap.size ∧ Lst (fun b => w7.heap.size ≤ b ∧ b < w8.heap.size) w 1 r2 (tmr ks) ∧ Box w p2 [.int .i64 0, .int .i64 0, .int .i64 0, .int .u64 0, .string ⟨#[]⟩, Sl.nil.v] 116 ∧ Box w p4 [.int .i64 k, .int .i64 f, .int .i64 t', .int .u64 u, .string x, xs.v] 116 ∧
   Rws w 116 6 xs (ps.map prow) ∧ (∀ b, xs.blk b → w8.heap.size ≤ b) ∧ (∀ q ∈ ps, TreeAt (fun b => w8.heap.size ≤ b ∧ ¬ xs.blk b) w q.2 q.1) ∧ ps.map Prod.fst = (ks.take j).map (Sp.treeOf L), fun i _ => ((ks.length : Int) - i).toNat, ⟨0, Sl.nil, [], rfl, Nat.zero_le _, E7.trans E8, Nat.le_refl _, hL, b27.pure E8, b4.pure E8, Rws.nil _ _ _, fun b hb => (hnil b hb).elim, fun q hq => by simp at hq, by simp⟩, ?_⟩
  rintro _ w ⟨j, xs, ps, rfl, hj, E, zw, hLw, b2w, b4w, hxs, hxo, hps, hpf⟩
  have hpl : ps.length = j := by have := congrArg List.length hpf; simp at this; omega
  unfold m_term_Pool_Tree_l1
  refine ⟨fun h => ?_, fun h => ?_⟩
  ·have hlt := lt_of_dec hrl h
   obtain ⟨ad, hat, hSa, hc⟩ := tm_nth hLw hlt
   refine ⟨ad, hat, ks[j], hc, fun w => Box w p4 [.int .i64 k, .int .i64 f, .int .i64 t', .int .u64 u, .string x, xs.v] 116, b4w.pure (Ext.drew w : Pure _ _), ?_⟩
   rintro _ rfl
   refine ⟨xs, fun _ h => h.cell rfl, ?_⟩
   have Ed : Pure w w.drew := Ext.drew w
   have hkj := hkid ks[j] (List.getElem_mem hlt)
   have hkp := Sp.inP_iff.1 hkj.1
   refine (ih ks[j].toNat (by omega) ks[j] w.drew F rfl (hP.pure (E.trans Ed))).mono ?_
   rintro _ w10 ⟨s', rfl, hTb, E10⟩
   generalize hTt : Sp.treeOf L ks[j] = tb at *
   obtain ⟨k2, f2, t2, u2, x2, ks2⟩ := tb
   have E10' : Pure w w10 := Ed.trans E10
   refine ⟨_, _, _, _, _, s', rfl, b4w.pure E10', ?_⟩
   intro p5 w11 h11
   have E11 : Pure w w11 := E10'.trans (Ext.new h11)
   refine ⟨b4w.pure E11, ?_⟩
   have zd : w.drew.heap.size = w.heap.size := rfl
   have z10 := E10.size
   have z11 := (Ext.new h11 : Pure w10 w11).size
   have np4 : ¬ xs.blk p4.block := fun hb => by have := hxo _ hb; omega
   have np2 : ¬ xs.blk p2.block := fun hb => by have := hxo _ hb; have := b27.lt; omega
   obtain ⟨s1, w12, hr12, hR12, X12, hb12⟩ := (hxs.pure E11).append (P := Try.prog) (ty := 22) (c := 1) slT_tree (r := trow (.mk k2 f2 t2 u2 x2 ks2) s') (Box.of_new h11).row rfl (trow_one _ _) (by simp; omega) (by simp [maxLen]; omega)
   have b412 := (b4w.pure E11).ext X12 np4
   refine ⟨s1, w12, hr12, b412, b412.canW (by simp), ?_⟩
   rintro _ rfl
   have X13 := Ext.setCell (w := w12) (p4.add 5) s1.v
   rw [add_block] at X13
   have z12 := X12.size
   have z13 := X13.size
   rw [wrap_succ hlt (by omega)]
   have hs1 : ∀ b, s1.blk b → xs.blk b ∨ w.heap.size ≤ b := fun b hb => (hb12 b hb).imp_right (fun h => by omega)
   have hs1o : ∀ b, s1.blk b → w8.heap.size ≤ b := fun b hb => (hs1 b hb).elim (hxo b) (fun h => by omega)
   have np4' : ¬ s1.blk p4.block := fun hb => by have := hs1o _ hb; omega
   have q12 := b412.lt
   refine ⟨⟨j + 1, s1, ps ++ [(.mk k2 f2 t2 u2 x2 ks2, s')], rfl, hlt, ?_, by omega, ?_, ?_, b412.set 5 s1.v, ?_, hs1o, ?_, ?_⟩, lt_dec hlt⟩
   ·exact ((E.trans E11).trans' X12 (fun i hi hs => by have := hxo i hs; have := E7.size; omega)).trans' X13 (fun i hi e => by omega)
   ·exact ((hLw.pure E11).ext X12 (fun b hb hs => by have := hxo b hs; omega)).ext X13 (fun b hb e => by omega)
   ·exact ((b2w.pure E11).ext X12 np2).ext X13 n24
   ·have := hR12.ext X13 (fun b hb e => np4' (e ▸ hb))
    simpa [prow] using this
   ·intro q hq
    rcases List.mem_append.1 hq with h | h
    ·have h' := ((hps q h).lt.pure E11).ext X12 (fun b hb hs => hb.1.2 hs)
     refine (h'.ext X13 (fun b hb e => by have := hb.1.1; omega)).mono (fun b hb => ⟨hb.1.1, fun hs => (hs1 b hs).elim hb.1.2 (fun h => by have := hb.2; omega)⟩)
    ·simp only [List.mem_singleton] at h; subst h
     have h' := ((hTb.lt.pure (Ext.new h11 : Pure w10 w11)).ext X12 (fun b hb hs => by have := hxs.lt hs; have := hb.1; omega))
     refine (h'.ext X13 (fun b hb e => by have := hb.1; omega)).mono (fun b hb => ⟨by have := hb.1; omega, fun hs => (hb12 b hs).elim (fun h => by have := hxs.lt h; have := hb.1; omega) (fun h => by have := hb.2; omega)⟩)
   ·rw [List.map_append, hpf, List.take_succ_eq_append_getElem hlt, List.map_append]
    simp [hTt]
  ·have hge := eq_of_dec hrl hj h
   subst hge
   rw [List.take_length] at hpf
   refine ⟨k, f, t', u, x, xs, b4w.row, bx 6 b2w rfl rfl (fun w14 b14 X14 => ⟨k, f, t', u, x, xs, b14.row, ?_⟩)⟩
   have np2 : ¬ xs.blk p2.block := fun hb => by have := hxo _ hb; have := b27.lt; omega
   have hT := TreeAt.of_pairs (S := fun b => w0.heap.size ≤ b) (k := k) (f := f) (t := t') (u := u) (x := x) (hxs.ext X14 (fun b hb e => np2 (e ▸ hb))) (fun b hb => by have := hxo b hb; have := E7.size; omega) (fun q hq => ?_) (by omega)
   ·rw [hpf] at hT
    rw [← hnd] at htr
    exact hK _ _ _ _ _ _ _ _ htr hT (E.own (by omega) X14)
   ·exact ((hps q hq).ext X14 (fun b hb e => by have := hb.1; have := b27.lt; omega)).mono (fun b hb => by have := hb.1; have := E7.size; omega)
end Go.Proofs
end
section
open Go Go.SE
namespace Go.Proofs
attribute [local irreducible] Calls
theorem c_ref05_Tree (p : Addr) {L : Sp.Pool} (hW : Sp.Wf L) : ∀ (n : Nat) (t : Int) (w0 : World) (F : Nat → Prop), t.toNat = n → PoolR w0 p L F →
  Calls Try.prog 63 #[.pointer (some p), .int .i64 t] w0 (RetT w0.heap.size w0 (Sp.treeOf L t)) := by
 intro n
 induction n using Nat.strongRecOn with
 | _ n ih =>
 intro t w0 F hn hP
 suffices key : ∀ K : Int → Int → Int → Int → ByteArray → Sl → World → Prop, (∀ k f t' u x s' w' ks, Sp.treeOf L t = .mk k f t' u x ks → TreeAt (w0.heap.size ≤ ·) w' s' (.mk k f t' u x ks) → Pure w0 w' → K k f t' u x s' w') → m_ref05_Pool_Tree (some p) t w0 K by
  refine (w_ref05_Pool_Tree _ _ w0 (fun k f t' u x s' w' => ∃ ks, Sp.treeOf L t = .mk k f t' u x ks ∧ TreeAt (w0.heap.size ≤ ·) w' s' (.mk k f t' u x ks) ∧ Pure w0 w') (key _ (fun k f t' u x s' w' ks h1 h2 h3 => ⟨ks, h1, h2, h3⟩))).mono ?_
  rintro _ w' ⟨k, f, t', u, x, s', rfl, ks, h1, h2, h3⟩
  rw [h1]
  exact ⟨s', rfl, h2, h3⟩
 intro K hK
 have hok := hW.ok
 have hnil : ∀ b, ¬ Sl.nil.blk b := fun b hb => by obtain ⟨a, h, _⟩ := hb; cases h
 unfold m_ref05_Pool_Tree
 intro H1 w1 hs1
 have E1 := hs1.first
 refine (c_ref05_Node p t w1 (hP.pure E1) hok).mono ?_
 rintro _ w2 ⟨k, f, t', u, x, a, b, r, rfl, ⟨hnd, hr⟩, E2⟩
 have E02 := E1.trans E2
 have hs2 := hs1.again E2.keptP
 refine ⟨_, _, _, _, _, _, _, _, rfl, E2.keptP, fun h => ?_, fun h => ?_⟩
 ·intro H2 w5 hs5
  have hin : Sp.inP L t = false := by rw [← hr]; simpa using h
  exact hK _ _ _ _ _ _ _ [] (by rw [Sp.treeOf_none hin]; rfl) TreeAt.leaf (E02.hst hs5)
 ·have hin : Sp.inP L t = true := by rw [← hr]; simpa using h
  have htr := Sp.treeOf_in hW hin
  have hnode := hW.node hin
  rw [← hnd] at htr hnode
  simp only at htr hnode
  obtain ⟨_, _, _, _, hkid, _, _⟩ := hnode
  have hpos := Sp.inP_iff.1 hin
  rw [ref05_kids]
  have J1 : ∀ (xs : Sl) (H : Nat → Prop) (w : World) (ps : List (Sp.Tree × Sl)) (S' : Nat → Prop), Hst w0 H w H w → Pure w0 w → Own H w 116 6 xs (ps.map prow) → ps.length ≤ 1 → (∀ p ∈ ps, TreeAt S' w p.2 p.1) → (∀ b, S' b → w0.heap.size ≤ b ∧ b < w.heap.size ∧ ¬ H b ∧ ¬ xs.blk b) → (∀ b, xs.blk b → w0.heap.size ≤ b) →
    ((Sp.shapeOf k).kids = 2 → ps.map Prod.fst = [Sp.treeOf L a]) → ((Sp.shapeOf k).kids ≠ 2 → ps.map Prod.fst = (Sp.kidsOf ⟨k, f, t', u, x, a, b⟩).map (Sp.treeOf L)) →
    m_ref05_Pool_Tree_j1 (some p) k b k f t' u x xs w0 H w K := by
   intro xs H w ps S' hs E O hpl hkids hS' hxs h2 h1
   unfold m_ref05_Pool_Tree_j1
   rw [ref05_kids]
   refine ⟨fun h => ?_, fun h => ?_⟩
   ·have hk2 : (Sp.shapeOf k).kids = 2 := by simpa using h
    have hps := h2 hk2
    intro w9 hs9
    have E9 := E.hst hs9
    have O9 := O.hst hs9
    have E10 : Pure w9 w9.drew := Ext.drew w9
    refine ⟨fun _ => True, trivial, ?_⟩
    rintro _ rfl
    have hb := hkid b (by simp [Sp.kidsOf, hk2])
    have hbp := Sp.inP_iff.1 hb.1
    refine (ih b.toNat (by omega) b w9.drew F rfl (hP.pure (E9.trans E10))).mono ?_
    rintro _ w11 ⟨s', rfl, hTb, E11⟩
    generalize hTt : Sp.treeOf L b = tb at *
    obtain ⟨k2, f2, t2, u2, x2, ks2⟩ := tb
    refine ⟨_, _, _, _, _, s', rfl, trivial, E11.keptP, ?_⟩
    intro p5 w12 h12
    have E12 : Pure w11 w12 := Ext.new h12
    refine ⟨trivial, ?_⟩
    have hs12 : Hst w0 H w12 H w12 := (hs9.again E10.keptP).again (E11.trans E12).keptP
    obtain ⟨s1, w13, hr13, hO13, hE13, hk13, hb13⟩ := (O9.pure ((E10.trans E11).trans E12)).append (P := Try.prog) (ty := 22) (c := 1) slT_tree hs12 (r := trow (.mk k2 f2 t2 u2 x2 ks2) s') (Box.of_new h12).row rfl (trow_one _ _) (by simp; omega) (by simp [maxLen]; omega)
    refine ⟨s1, w13, hr13, trivial, hk13, ?_⟩
    intro w15 hs15
    have zd : w9.drew.heap.size = w9.heap.size := rfl
    have z9 := hs9.ext.size
    have z11 := E11.size
    have z12 := E12.size
    have z13 := hE13.size
    have hS9 : ∀ b, S' b → w0.heap.size ≤ b ∧ b < w9.heap.size ∧ ¬ H b ∧ ¬ xs.blk b := fun b hb => ⟨(hS' b hb).1, by have := (hS' b hb).2.1; omega, (hS' b hb).2.2.1, (hS' b hb).2.2.2⟩
    have hvs : ∀ b, s1.blk b → b < w13.heap.size ∧ ¬ H b := fun b hb => ⟨hO13.rows.lt hb, hO13.vis b hb⟩
    have hR15 := hO13.rows.ext hs15.ext (hs15.disj (G := s1.blk) hvs)
    have e1 : ps.map prow ++ [trow (.mk k2 f2 t2 u2 x2 ks2) s'] = (ps ++ [((.mk k2 f2 t2 u2 x2 ks2 : Sp.Tree), s')]).map prow := by simp [prow]
    rw [e1] at hR15
    have hT := TreeAt.of_pairs (S := fun b => w0.heap.size ≤ b) (k := k) (f := f) (t := t') (u := u) (x := x) hR15 (fun b hb => (hb13 b hb).elim (hxs b) (fun h => by have := E9.size; omega)) (fun q hq => ?_) (by simp; omega)
    ·have e2 : (ps ++ [((.mk k2 f2 t2 u2 x2 ks2 : Sp.Tree), s')]).map Prod.fst = (Sp.kidsOf ⟨k, f, t', u, x, a, b⟩).map (Sp.treeOf L) := by
      rw [List.map_append, hps]; simp [Sp.kidsOf, hk2, hTt]
     rw [e2] at hT
     exact hK _ _ _ _ _ _ _ _ htr hT ((((E9.trans E10).trans E11).trans E12).trans' hE13 (fun i hi hb => by have := hxs i hb; omega) |>.hst hs15)
    ·rcases List.mem_append.1 hq with h | h
     ·have q1 := (hkids q h).hst hs9 (fun b hb => ⟨(hS' b hb).2.1, (hS' b hb).2.2.1⟩)
      have q2 := (q1.pure ((E10.trans E11).trans E12)).ext hE13 (fun b hb hy => (hS' b hb).2.2.2 hy)
      exact (q2.hst hs15 (fun b hb => ⟨by have := (hS9 b hb).2.1; omega, (hS' b hb).2.2.1⟩)).mono (fun b hb => (hS' b hb).1)
     ·simp only [List.mem_singleton] at h; subst h
      have q1 := (hTb.lt.pure E12).ext hE13 (fun b hb hy => by have := O9.rows.lt hy; have := hb.1; omega)
      exact (q1.hst hs15 (fun b hb => ⟨by have := hb.2; omega, fun hh => by have := hs9.lt b hh; have := hb.1; omega⟩)).mono (fun b hb => by have := hb.1; have := E9.size; omega)
   ·have hk2 : (Sp.shapeOf k).kids ≠ 2 := by simpa using h
    intro w16 hs16
    have O16 := O.hst hs16
    have hT := TreeAt.of_pairs (S := fun b => w0.heap.size ≤ b) (k := k) (f := f) (t := t') (u := u) (x := x) O16.rows hxs (fun q hq => ((hkids q hq).hst hs16 (fun b hb => ⟨(hS' b hb).2.1, (hS' b hb).2.2.1⟩)).mono (fun b hb => (hS' b hb).1)) (by omega)
    rw [h1 hk2] at hT
    exact hK _ _ _ _ _ _ _ _ htr hT (E.hst hs16)
  have hkk := Sp.kids_le k
  refine ⟨fun h => ?_, fun h => ?_⟩
  ·have hk1 : 1 ≤ (Sp.shapeOf k).kids := by have := of_decide_eq_true h; omega
   intro H3 w8 hs8
   have E8 := E02.hst hs8
   have E17 : Pure w8 w8.drew := Ext.drew w8
   refine ⟨fun _ => True, trivial, ?_⟩
   rintro _ rfl
   have ha := hkid a (by rcases hkk with h | h | h <;> simp [Sp.kidsOf, h] <;> omega)
   have hap := Sp.inP_iff.1 ha.1
   refine (ih a.toNat (by omega) a w8.drew F rfl (hP.pure (E8.trans E17))).mono ?_
   rintro _ w18 ⟨s', rfl, hTa, E18⟩
   generalize hTt : Sp.treeOf L a = ta at *
   obtain ⟨k2, f2, t2, u2, x2, ks2⟩ := ta
   refine ⟨_, _, _, _, _, s', rfl, trivial, E18.keptP, ?_⟩
   intro p6 w19 h19
   have E19 : Pure w18 w19 := Ext.new h19
   refine ⟨trivial, ?_⟩
   have hs19 : Hst w0 H3 w19 H3 w19 := (hs8.again E17.keptP).again (E18.trans E19).keptP
   obtain ⟨s2, w20, hr20, hO20, hE20, hk20, hb20⟩ := (Own.nil (sz := 6) (e := 116) H3 w19).append (P := Try.prog) (ty := 22) (c := 1) slT_tree hs19 (r := trow (.mk k2 f2 t2 u2 x2 ks2) s') (Box.of_new h19).row rfl (trow_one _ _) (by simp) (by simp [maxLen])
   refine ⟨s2, w20, hr20, trivial, hk20, ?_⟩
   intro w21 hs21
   have zd : w8.drew.heap.size = w8.heap.size := rfl
   have z18 := E18.size
   have z19 := E19.size
   have z20 := hE20.size
   have z21 := hs21.ext.size
   have E20 : Pure w19 w20 := hE20.mono (fun b _ hb => hnil b hb)
   have hs2n : ∀ b, s2.blk b → w19.heap.size ≤ b := fun b hb => (hb20 b hb).elim (fun h => (hnil b h).elim) id
   refine J1 s2 H3 w21 [((.mk k2 f2 t2 u2 x2 ks2 : Sp.Tree), s')] (fun b => w8.heap.size ≤ b ∧ b < w18.heap.size) hs21.here ((((E8.trans E17).trans E18).trans E19).trans E20 |>.hst hs21) ?_ (by simp) ?_ ?_ (fun b hb => by have := hs2n b hb; have := E8.size; omega) (fun _ => by simp) (fun hne => ?_)
   ·have := hO20.hst hs21; simpa [prow] using this
   ·intro q hq
    simp only [List.mem_singleton] at hq; subst hq
    exact ((hTa.lt.pure E19).pure E20).hst hs21 (fun b hb => ⟨by have := hb.2; omega, fun hh => by have := hs8.lt b hh; have := hb.1; omega⟩)
   ·rintro b ⟨h1, h2⟩
    exact ⟨by have := E8.size; omega, by omega, fun hh => by have := hs8.lt b hh; omega, fun hh => by have := hs2n b hh; omega⟩
   ·rcases hkk with h | h | h
    ·omega
    ·simp [Sp.kidsOf, h, hTt]
    ·exact absurd h hne
  ·have hk0 : (Sp.shapeOf k).kids = 0 := by have := of_decide_eq_false h; omega
   intro H3 w8 hs8
   exact J1 Sl.nil H3 w8 [] (fun _ => False) hs8.here (E02.hst hs8) (Own.nil _ _) (by simp) (by simp) (fun b h => h.elim) (fun b h => (hnil b h).elim) (fun h => by omega) (fun _ => by simp [Sp.kidsOf, hk0])
end Go.Proofs
end
section
open Go Go.SE
namespace Go.Proofs
attribute [local irreducible] Calls
theorem c_law09_RecipeEvals {ST So : Nat → Prop} (ts : List Sp.Tree) (ops : List Sp.Op) (sT so : Sl) (w0 : World) (hT : TreeAt ST w0 sT (.mk 0 0 0 0 ⟨#[]⟩ ts)) (hS : ∀ b, ST b → b < w0.heap.size) (ho : Lst So w0 5 so (ops.map oprow)) (hSo : ∀ b, So b → b < w0.heap.size) :
  Calls Try.prog 12 #[sT.v, so.v] w0 (fun e w' => ∃ r : Bool, e = .returned (.bool r) ∧ (r = true ∧ Pure w0 w')) := by
 refine w_law09_RecipeEvals _ _ w0 (fun r w' => r = true ∧ Pure w0 w') ?_
 unfold m_law09_RecipeEvals
 have J1t : ∀ w, Pure w0 w → m_law09_RecipeEvals_j1 sT so true w0 None w (fun r w' => r = true ∧ Pure w0 w') := by
  intro w E
  unfold m_law09_RecipeEvals_j1
  refine Br.t rfl ?_
  refine (c_live9 w).mono ?_
  rintro _ w3 ⟨r2, rfl, hr2, E3⟩
  exact ⟨_, rfl, E3.keptP, hr2, E.trans E3⟩
 refine (c_law09_large ts sT w0 hT hS).mono ?_
 rintro _ w25 ⟨r18, rfl, hlg, E25⟩
 refine ⟨_, rfl, E25.keptP, fun _ => J1t w25 E25, fun h1 => ?_⟩
 obtain ⟨hn1, hc1⟩ := hlg h1
 refine (c_law09_long ops so w25 (ho.pure E25)).mono ?_
 rintro _ w26 ⟨r19, rfl, hlo, E26'⟩
 have E26 := E25.trans E26'
 refine ⟨_, rfl, E26'.keptP, ?_⟩
 cases r19 with
 | true => exact J1t w26 E26
 | false =>
 have hn2 := hlo rfl
 unfold m_law09_RecipeEvals_j1
 refine Br.f rfl ?_
 refine (c_law09_given ts sT w26 (hT.pure E26) (fun b hb => by have := hS b hb; have := E26.size; omega) (by omega) (by omega)).mono ?_
 rintro _ w2 ⟨_, _, rfl, s, p, k, q, sg, S, FP, FK, FR, rfl, rfl, A2', hk⟩
 refine ⟨_, _, rfl, A2'.pure.keptP, Br.f rfl ?_⟩
 have A2 := A2'.base E26
 have hW := Sp.sideAll_wf ts
 have hfew := Sp.sideAll_few ts
 have hGn := Sp.sideAll_len ts
 generalize Sp.sideAll ts = Q at *
 obtain ⟨L, G⟩ := Q
 simp only at A2 hk hW hfew hGn
 intro p1 w3 n3
 obtain ⟨s1, w4, hr4, R4, E24, E23, hs1, hk4⟩ := ops_copy (ho.pure A2.pure) (by omega) n3
 refine ⟨s1, w4, hr4, hk4 _ (fun b hb => hb.elim), ?_⟩
 have A4 := A2.pureE E24
 have Ad4 := A4.pureE (Ext.drew w4)
 have z24 := E24.size
 have hP1 : ∀ b, s1.blk b → ¬ FP b ∧ ¬ FR b := fun b hb => ⟨fun hf => by have := hs1 b hb; have := A2.pool.lt hf; omega, fun hf => by have := hs1 b hb; have := A2.ref.lt hf; omega⟩
 have Rd4 : Rws w4.drew 175 5 s1 (ops.map oprow) := R4.pure (Ext.drew w4)
 refine ⟨fun w => Box w s [.pointer (some p), .pointer (some k), .pointer (some q), sg.v] 106, Ad4.box, ?_⟩
 rintro _ rfl
 refine ⟨s, rfl, some p, fun _ h => h.cell0, s, rfl, some k, fun _ h => h.cell rfl, ?_⟩
 refine (c_recipe_Eval (Sl0 := s1.blk) p k s1 ops w4.drew hW Ad4.pool Ad4.know Rd4.lst (fun b hb => ⟨Rd4.lt hb, (hP1 b hb).1⟩) (by omega) (by omega)).mono ?_
 rintro _ w6 ⟨r4, r5, r6, rfl, hr, FP6, hP6, X6, hF6⟩
 obtain ⟨k6, A6⟩ := Ad4.prog hP6 X6 hF6
 have R6 := Rd4.ext X6 (fun b hb => (hP1 b hb).1)
 refine ⟨_, _, _, rfl, A6.box, k6, ?_⟩
 have Ad6 := A6.pureE (Ext.drew w6)
 have Rd6 : Rws w6.drew 175 5 s1 (ops.map oprow) := R6.pure (Ext.drew w6)
 refine ⟨fun w => Box w s [.pointer (some p), .pointer (some k), .pointer (some q), sg.v] 106, Ad6.box, ?_⟩
 rintro _ rfl
 refine ⟨s, rfl, some q, fun _ h => h.cell rfl, s, rfl, sg, fun _ h => h.cell rfl, ?_⟩
 have soR : ∀ {w : World} {L1 L2 : Sp.Pool} {F1 F2 : Nat → Prop} {H : Nat → Prop}, SideAt w0 H w s p k q sg L1 L2 G G S F1 FK F2 → ∀ b, So b → b < w.heap.size ∧ ¬ F2 b := fun A b hb => ⟨by have := hSo b hb; have := A.pure.size; omega, fun hf => by have := hSo b hb; have := (A.oR b hf).1; omega⟩
 have sgR : ∀ {w : World} {L1 L2 : Sp.Pool} {F1 F2 : Nat → Prop} {H : Nat → Prop}, SideAt w0 H w s p k q sg L1 L2 G G S F1 FK F2 → ∀ b, sg.blk b → b < w.heap.size ∧ ¬ F2 b := fun A b hb => ⟨A.giv.lt hb, fun hf => (A.oR b hf).2.2.2 hb⟩
 refine (c_r09_Eval (Sg := sg.blk) (S0 := So) q sg so G ops w6.drew hW Ad6.ref Ad6.giv.lst (ho.pure Ad6.pure) (sgR Ad6) (soR Ad6) (by omega)).mono ?_
 rintro _ w8 ⟨r7, r8, r9, rfl, hr', FR8, hR8, X8, hF8⟩
 obtain ⟨k8, A8⟩ := Ad6.doc hR8 X8 hF8
 have R8 := Rd6.ext X8 (fun b hb => (hP1 b hb).2)
 refine ⟨_, _, _, rfl, A8.box, k8, ?_⟩
 have hWe := Sp.evalOps_wf hW G ops
 have hee := Sp.evalOps_err (L := L) (G := G) (l := ops) (by omega)
 generalize Sp.evalOps L G ops = EV at *
 obtain ⟨t, er, pl, L1⟩ := EV
 simp only at hr hr' hWe hee A8
 cases hr
 cases hr'
 have Ad8 := A8.pureE (Ext.drew w8)
 have Rd8 : Rws w8.drew 175 5 s1 (ops.map oprow) := R8.pure (Ext.drew w8)
 refine ⟨fun w => Box w s [.pointer (some p), .pointer (some k), .pointer (some q), sg.v] 106, Ad8.box, ?_⟩
 rintro _ rfl
 refine ⟨s, rfl, some p, fun _ h => h.cell0, s, rfl, some k, fun _ h => h.cell rfl, ?_⟩
 have z6 := X6.size
 have z8 := X8.size
 have zd4 : w4.drew.heap.size = w4.heap.size := rfl
 have zd6 : w6.drew.heap.size = w6.heap.size := rfl
 have zd8 : w8.drew.heap.size = w8.heap.size := rfl
 have hP6' : ∀ b, s1.blk b → ¬ FP6 b := fun b hb hf => (hF6 b hf).elim (hP1 b hb).1 (fun h => by have := R4.lt hb; omega)
 refine (c_recipe_Trace (Sl0 := s1.blk) p k s1 ops w8.drew hWe Ad8.pool Ad8.know Rd8.lst (fun b hb => ⟨Rd8.lt hb, hP6' b hb⟩) (by omega) (by omega)).mono ?_
 rintro _ w10 ⟨sm, rfl, _, ⟨FP10, hP10, hF10, hd10⟩, rows10, own10, X10⟩
 obtain ⟨k10, A10⟩ := Ad8.prog hP10 X10 hF10
 have R10 := Rd8.ext X10 hP6'
 refine ⟨_, rfl, A10.box, k10, ?_⟩
 have J2 : ∀ (H : Nat → Prop) (w : World) (sw : Sl) (M : List Int) (Lx : Sp.Pool) (F1 F2 : Nat → Prop), SideAt w0 H w s p k q sg Lx Lx G G S F1 FK F2 → Sp.Wf Lx → M.length ≤ 1000 → Own H w 41 1 sm (tmr M) → Own H w 41 1 sw (tmr M) → Rws w 175 5 s1 (ops.map oprow) →
   m_law09_RecipeEvals_j2 so (some s) s1 r4 r5 r6 r4 r5 r6 sm sw w0 H w (fun r w' => r = true ∧ Pure w0 w') := by
  intro H w sw M Lx F1 F2 A hWx hM Om Ow R1
  unfold m_law09_RecipeEvals_j2
  have Ad := A.pureE (Ext.drew w)
  obtain ⟨q1, q2, q3, hQ, hQF⟩ := Ad.ref
  refine ⟨fun w => Box w s [.pointer (some p), .pointer (some k), .pointer (some q), sg.v] 106 ∧ Box w q [q1.v, q2.v, q3.v] 75, ⟨Ad.box, hQ.box⟩, ?_⟩
  rintro _ rfl
  refine Br.f (by simp) ?_
  refine (p_law09_num r5 _).mono ?_
  rintro _ w20 ⟨rfl, E20⟩
  have C20 : ∀ {w' : World}, Pure w.drew w' → (Box w' s [.pointer (some p), .pointer (some k), .pointer (some q), sg.v] 106 ∧ Box w' q [q1.v, q2.v, q3.v] 75) := fun E => ⟨Ad.box.pure E, hQ.box.pure E⟩
  refine ⟨_, rfl, C20 E20, E20.keptP, Br.f (by simp [s_law09_num]) (Br.f (by simp) (Br.f ?_ ?_))⟩
  ·rw [Om.len, Ow.len]; simp
  refine ⟨s, rfl, some p, fun _ h => h.1.cell0, s, rfl, some q, fun _ h => h.1.cell rfl, q, rfl, q1, fun _ h => h.2.cell0, ?_⟩
  refine (c_term_Len p w20 (Ad.pool.pure E20)).mono ?_
  rintro _ w20 ⟨r14, rfl, rfl, rfl⟩
  refine ⟨_, rfl, C20 E20, Kept.refl _, Br.f ?_ ?_⟩
  ·rw [hQ.r1.len]; simp
  have E02 : Pure w w20 := (Ext.drew w : Pure _ _).trans E20
  refine (c_r09_Same s1 so ops w20 (R1.pure E02).lst (ho.pure (A.pure.trans E02)) (by omega)).mono ?_
  rintro _ w22 ⟨r15, rfl, rfl, E22⟩
  refine ⟨_, rfl, C20 (E20.trans E22), E22.keptP, ?_⟩
  unfold m_law09_RecipeEvals_j3
  refine Br.f rfl ?_
  have E3 := E02.trans E22
  have A22 := A.pureE E3
  refine ⟨fun i H' w' => ∃ j : Nat, i = j ∧ j ≤ M.length ∧ SideAt w0 H' w' s p k q sg Lx Lx G G S F1 FK F2 ∧ Own H' w' 41 1 sm (tmr M) ∧ Own H' w' 41 1 sw (tmr M), fun i _ => ((M.length : Int) - i).toNat, ⟨0, rfl, Nat.zero_le _, A22, Om.pure E3, Ow.pure E3⟩, ?_⟩
  rintro _ H' w' hs' ⟨j, rfl, hj, B, Pm, Pw⟩
  unfold m_law09_RecipeEvals_l4
  have hml : sm.len = M.length := by rw [Pm.len, tmr_len]
  refine ⟨fun h => ?_, fun h => ?_⟩
  ·have hlt := lt_of_dec hml h
   obtain ⟨a7, h7, b7, c7⟩ := tm_nth Pm.rows.lst hlt
   obtain ⟨a8, h8, b8, c8⟩ := tm_nth Pw.rows.lst hlt
   refine ⟨a7, h7, fun w13 hs13 => ⟨_, cell_hst c7 (Pm.vis _ b7) hs13, a8, h8, _, cell_hst c8 (Pw.vis _ b8) hs13, Br.f (by simp) ?_⟩⟩
   rw [wrap_succ hlt (by omega)]
   exact ⟨⟨j + 1, rfl, hlt, B.hst hs13, Pm.hst hs13, Pw.hst hs13⟩, lt_dec hlt⟩
  ·have Bd := B.pureE (Ext.drew w')
   refine ⟨fun w => Box w s [.pointer (some p), .pointer (some k), .pointer (some q), sg.v] 106, Bd.box, ?_⟩
   rintro _ rfl
   refine ⟨s, rfl, some p, fun _ h => h.cell0, s, rfl, some q, fun _ h => h.cell rfl, ?_⟩
   refine (c_Tree p hWx r4.toNat r4 w'.drew _ rfl Bd.pool).mono ?_
   rintro _ w15 ⟨st, rfl, T15, E15⟩
   have B15 := Bd.pureE E15
   have T15' : TreeAt (· < w15.heap.size) w15 st (Sp.treeOf Lx r4) := T15.lt.mono (fun b hb => hb.2)
   refine ⟨_, _, _, _, _, st, rfl, B15.box, E15.keptP, ?_⟩
   refine (c_ref05_Tree q hWx r4.toNat r4 w15 _ rfl B15.ref).mono ?_
   rintro _ w16 ⟨su, rfl, T16, E16⟩
   have B16 := B15.pureE E16
   refine ⟨_, _, _, _, _, su, rfl, B16.box, E16.keptP, ?_⟩
   refine (c_ref05_Same (S := (· < w16.heap.size)) (Sp.treeOf Lx r4) (Sp.treeOf Lx r4) st su w16 ((T15'.pure E16).mono (fun b hb => by have := E16.size; omega)) (T16.lt.mono (fun b hb => hb.2)) (fun b hb => hb)).mono ?_
   rintro _ w17 ⟨r11, rfl, rfl, E17⟩
   have B17 := B16.pureE E17
   refine ⟨_, rfl, B17.box, E17.keptP, Br.t ((Sp.same_iff _ _).2 rfl) ?_⟩
   refine (c_live9 w17).mono ?_
   rintro _ w18 ⟨r12, rfl, rfl, E18⟩
   exact ⟨_, rfl, B17.box.pure E18, E18.keptP, rfl, B17.pure.trans E18⟩
 have z10 := X10.size
 have hd6 : ∀ b, sm.blk b → ¬ FR8 b := fun b hb hf => by have := own10 b hb; have := A8.ref.lt hf; omega
 refine ⟨fun h => fun H1 w11 hs11 => ?_, fun h => fun H1 w11 hs11 => ?_⟩
 ·rw [Bool.and_eq_true, bne_iff_ne, bne_iff_ne] at h
  obtain ⟨l1, l2⟩ := hee.1 h
  have htr : Sp.traceOps L1 G ops = ((Sp.runOps L1 G [] ops).1, (Sp.runOps L1 G [] ops).2.2) := by
   unfold Sp.traceOps; rw [if_neg (by omega), if_neg l2]
  rw [htr] at rows10 A10
  simp only at rows10 A10
  have hWr := Sp.runOps_wf G ops L1 [] hWe
  have hlr := (Sp.runOps_len G ops L1 []).1
  have A11 := A10.hst hs11
  have Ad := A11.pureE (Ext.drew w11)
  have O10 : Own None w10 41 1 sm (tmr (Sp.runOps L1 G [] ops).1) := ⟨rows10, fun _ _ h => h⟩
  have Od := (O10.hst hs11).pure (Ext.drew w11)
  have Rd : Own H1 w11.drew 175 5 s1 (ops.map oprow) := ((⟨R10, fun _ _ h => h⟩ : Own None w10 175 5 s1 (ops.map oprow)).hst hs11).pure (Ext.drew w11)
  refine ⟨fun w => Box w s [.pointer (some p), .pointer (some k), .pointer (some q), sg.v] 106, Ad.box, ?_⟩
  rintro _ rfl
  refine ⟨s, rfl, some q, fun _ h => h.cell rfl, s, rfl, sg, fun _ h => h.cell rfl, ?_⟩
  refine (c_r09_Run (Sg := sg.blk) (S0 := So) q sg so G ops w11.drew hWe Ad.ref Ad.giv.lst (ho.pure Ad.pure) (sgR Ad) (soR Ad) (by omega)).mono ?_
  rintro _ w24 ⟨sw, r17, rfl, _, ⟨FR24, hR24, hF24, hd24⟩, rows24, own24, X24⟩
  obtain ⟨k24, A24⟩ := Ad.doc hR24 X24 hF24
  refine ⟨_, _, rfl, A24.box, k24, ?_⟩
  refine J2 H1 w24 sw _ _ _ _ A24 hWr (by simp only [List.length_nil] at hlr; omega) (Od.ext X24 hd6) ⟨rows24, fun b hb hh => by have := own24 b hb; have := hs11.lt b hh; have e : w11.drew.heap.size = w11.heap.size := rfl; omega⟩ (Rd.rows.ext X24 (fun b hb hf => by
   rcases hF8 b hf with h1 | h1
   ·exact (hP1 b hb).2 h1
   ·have := R4.lt hb; omega))
 ·have hno : ¬ (ops.length ≤ 256 ∧ ops.length ≠ 0) := fun hh => by
   have := hee.2 hh
   rw [Bool.and_eq_false_iff, bne_eq_false_iff_eq, bne_eq_false_iff_eq] at h
   omega
  have htr : Sp.traceOps L1 G ops = ([], L1) := by
   unfold Sp.traceOps
   split
   ·rfl
   ·rw [if_pos (by omega)]
  rw [htr] at rows10 A10
  simp only at rows10 A10
  have A11 := A10.hst hs11
  exact J2 H1 w11 Sl.nil [] _ _ _ A11 hWe (by simp) ((⟨rows10, fun _ _ h => h⟩ : Own None w10 41 1 sm (tmr [])).hst hs11) (Own.nil _ _) ((⟨R10, fun _ _ h => h⟩ : Own None w10 175 5 s1 (ops.map oprow)).hst hs11).rows
end Go.Proofs
end
section
namespace Go.SE
open Go.ChangeShapes Go.WideShapes Go.ChangeAt Go.RowKit
section
variable {H : Type} {enc : TypeId × Value → H} {P : Program}
theorem below_trodAll (hl : laidOutB P = true) {W W' : World} (hb : Below W.heap.size W W') : ∀ (ts : List TypeId) (vs : List Value) (ds : List (DataW H)) (ps : List MemPlace), (ts.all fun t => P.readableRec t && decide (t < P.types.size)) = true →
  DataW.TrodAll enc P W 0 (fun _ => true) true ts vs ds ps → (∀ x ∈ ps, x.block < W.heap.size) → DataW.TrodAll enc P W' 0 (fun b => decide (b < W.heap.size)) true ts vs ds ps
 | [], _, _, _, _, h, _ => by
  obtain ⟨rfl, rfl, rfl⟩ := trodAll_nil h
  exact h
 | t :: ts, _, _, _, hr, h, hlt => by
  obtain ⟨v, vs1, d, ds1, a, b, rfl, rfl, rfl, h1, h2⟩ := trodAll_cons h
  simp only [List.all_cons, Bool.and_eq_true, decide_eq_true_eq] at hr
  exact ⟨a, b, Below.trod hl hr.1.1 hr.1.2 h1 hb (fun x hx => hlt x (by simp [hx])), below_trodAll hl hb ts vs1 ds1 b (by simpa using hr.2) h2 (fun x hx => hlt x (by simp [hx])), rfl⟩
theorem law_post {f : Func} {s : ChangeSpec} {W W' : World} {args : Array Value} {ds gs : List (DataW H)} {before : List MemPlace} {t : TypeId} (hl : laidOutB P = true)
  (hv : s.vars = []) (hf : ∀ ds : List (DataW H), ds.length = f.params.size → s.fn H ds = { results := [.lit (.bool true)], args := ds }) (hrt : f.resultTypes = #[t]) (ht : P.underlying t = some .bool)
  (hr : (f.params.toList.all fun t => P.readableRec t && decide (t < P.types.size)) = true)
  (hW : DataW.Whole enc P f.params.toList s.vars false W args.toList ds gs before) (E : Pure W W') :
  s.post enc P f false true false false W args (.bool true) W' := by
 have hW' := hW
 obtain ⟨p, q, hA, hV, rfl, hfz, hnd⟩ := hW
 rw [hv] at hV
 obtain ⟨rfl, rfl⟩ := trodVars_none hV
 have hlen : ds.length = f.params.size := by
  have : ∀ (ts : List TypeId) (vs : List Value) (ds : List (DataW H)) (ps : List MemPlace), DataW.TrodAll enc P W 0 (fun _ => true) true ts vs ds ps → ds.length = ts.length := by
   intro ts
   induction ts with
   | nil => intro vs ds ps h; obtain ⟨_, rfl, _⟩ := trodAll_nil h; rfl
   | cons t ts ih =>
    intro vs ds ps h
    obtain ⟨v, vs1, d, ds1, a, b, _, rfl, _, _, h2⟩ := trodAll_cons h
    simp [ih _ _ _ h2]
  simpa using this _ _ _ _ hA
 have hfn := hf ds hlen
 have hfn' : s.fn H (ds ++ []) = { results := [.lit (.bool true)], args := ds } := by rw [List.append_nil]; exact hfn
 have hlt : ∀ x ∈ p, x.block < W.heap.size := fun x hx => by simpa using hW'.lt x (by simp [hx])
 have bel := E.below
 refine ⟨ds, [], p ++ [], [], p, [], hW', ?_, ?_, ?_, bel.frame _, fun h => by cases h⟩
 ·rw [hfn', hrt]; exact trodAll_mk1 (shut_bool ht _)
 ·rw [hfn']; exact below_trodAll hl bel _ _ _ _ hr hA hlt
 ·rw [hfn', hv]; exact hV
theorem law_lifted {C : Checked} {os : Os} {f : FuncId} {fn : Func} {s : ChangeSpec} {t : TypeId} (hl : laidOutB C.prog = true)
  (hv : s.vars = []) (hf : ∀ ds : List (DataW H), ds.length = fn.params.size → s.fn H ds = { results := [.lit (.bool true)], args := ds }) (hrt : fn.resultTypes = #[t]) (ht : C.prog.underlying t = some .bool)
  (hr : (fn.params.toList.all fun t => C.prog.readableRec t && decide (t < C.prog.types.size)) = true)
  (own : ownKnob C.prog.godebug = none) (started : os.Started) (noInit : C.prog.inits.idxOf? f = none) (hfn : C.prog.funcs[f]? = some fn)
  (witness : ∃ (w : World) (tape : Tape) (i : Input), w.os = os ∧ (w.forCall tape i).Shaped C.prog ∧ i.vars = [] ∧ Input.okWide C.prog (w.forCall tape i) .any w.heap.size f i ∧
   s.pre6 enc C.prog fn [] false (w.forCall tape i).memory i.args ∧ ({} : Assume).holds C.prog (lone (Frame.enter C.prog f i.args .normal) [] (w.forCall tape i)))
  (contract : ∀ (W : World) (base : Nat) (args : Array Value) (ds : List (DataW H)) (p : List MemPlace),
   (∀ (j : Nat) t v, fn.params[j]? = some t → args[j]? = some v → Value.okWide C.prog W .any base t v) →
   DataW.TrodAll enc C.prog W 0 (fun _ => true) true fn.params.toList args.toList ds p → (∀ x ∈ p, x.block < W.heap.size) →
   Calls C.prog f args W (fun e W' => ∃ r : Bool, e = .returned (.bool r) ∧ (r = true ∧ Pure W W'))) :
  ReturnsInHanded {} C os f .any (s.pre6 enc C.prog fn [] false) (s.post enc C.prog fn false true false false) := by
 refine returnsInHanded_of_change own started noInit hfn witness ?_
 intro W base args ds gs before hval hW _ _
 have hW' := hW
 obtain ⟨p, q, hA, hV, rfl, hfz, hnd⟩ := hW
 refine (contract W base args ds p hval hA (fun x hx => by simpa using hW'.lt x (by simp [hx]))).mono fun e W' ⟨r, he, h1, h2⟩ => ?_
 subst h1
 exact ⟨_, he, law_post hl hv hf hrt ht hr hW' h2⟩
end
end Go.SE
namespace Go.SE
open Go.ChangeShapes Go.WideShapes Go.ChangeAt Go.RowKit
section
variable {P : Program} {W : World} {r : Reach} {b0 : Nat} {t : TypeId} {v : Value}
theorem okWide_sl {e : TypeId} (ht : P.underlying t = some (.slice e)) (h : Value.okWide P W r b0 t v) : ∃ a n c, v = .slice a n c := by
 unfold Value.okWide at h
 rw [ht] at h
 simp only at h
 unfold Cell.okWide at h
 rw [ht] at h
 cases v <;> simp [Cell.ok, ht] at h
 exact ⟨_, _, _, rfl⟩
end
end Go.SE
end
section
open Go Go.SE
namespace Go.Proofs
theorem mapM_facts {α β : Type} {f : α → Option β} : ∀ {l : List α} {r : List β}, l.mapM f = some r → r.length = l.length ∧ ∀ (i : Nat) (a : α), l[i]? = some a → ∃ b, f a = some b ∧ r[i]? = some b
 | [], r, h => by
  have : r = [] := by simpa using h.symm
  subst this
  exact ⟨rfl, fun i a h => by simp at h⟩
 | x :: xs, r, h => by
  rw [List.mapM_cons] at h
  cases hx : f x with
  | none => simp [hx] at h
  | some y =>
   cases hxs : xs.mapM f with
   | none => simp [hx, hxs] at h
   | some ys =>
    have : r = y :: ys := by simpa [hx, hxs] using h.symm
    subst this
    obtain ⟨h1, h2⟩ := mapM_facts hxs
    refine ⟨by simp [h1], fun i a ha => ?_⟩
    cases i with
    | zero => cases ha; exact ⟨y, hx, rfl⟩
    | succ i => exact h2 i a (by simpa using ha)
theorem cells_row {w : World} {base : Nat} {a : Addr} {n : Nat} {cs : List Value} (h : w.cells? base a n = some cs) : cs.length = n ∧ Row w a cs := by
 obtain ⟨_, h1, h2⟩ := World.cells?_some h
 exact ⟨h1, fun j hj => h2 j (by omega)⟩
section
variable {H : Type} {enc : TypeId × Value → H} {P : Program} {W : World} {base : Nat} {sp : Nat → Bool} {held : Bool}
theorem trod_int1 {t : TypeId} {k : IntKind} (ht : P.underlying t = some (.int k)) {n : Nat} {c : Value} {x : DataW H × List MemPlace} (h : DataW.trod enc P W base sp held n t [c] = some x) : ∃ m, c = .int k m := by
 cases n with
 | zero => cases h
 | succ n =>
  rw [DataW.trod_step] at h
  unfold DataW.trodStep at h
  rw [ht] at h
  cases c <;> simp at h
  obtain ⟨⟨rfl, _⟩, _⟩ := h
  exact ⟨_, rfl⟩
theorem trod_str1 {t : TypeId} (ht : P.underlying t = some .string) {n : Nat} {c : Value} {x : DataW H × List MemPlace} (h : DataW.trod enc P W base sp held n t [c] = some x) : ∃ m, c = .string m := by
 cases n with
 | zero => cases h
 | succ n =>
  rw [DataW.trod_step] at h
  unfold DataW.trodStep at h
  rw [ht] at h
  cases c <;> simp at h
  exact ⟨_, rfl⟩
theorem trod_slice1 {t e : TypeId} (ht : P.underlying t = some (.slice e)) {n : Nat} {c : Value} {x : DataW H × List MemPlace} (h : DataW.trod enc P W base sp held (n + 1) t [c] = some x) :
  c = .slice none 0 0 ∨ ∃ a len cap, c = .slice (some a) len cap ∧ len ≤ cap ∧ cap ≤ maxLen ∧ ∀ i, i < len → ∃ cs y, W.cells? base (a.add (i * P.cellsOf e)) (P.cellsOf e) = some cs ∧ DataW.trod enc P W base sp held n e cs = some y := by
 rw [DataW.trod_step] at h
 unfold DataW.trodStep at h
 rw [ht] at h
 cases c with
 | slice a len cap =>
  cases a with
  | none =>
   cases len with
   | zero => cases cap with
    | zero => exact .inl rfl
    | succ c => simp at h
   | succ l => simp at h
  | some a =>
   right
   simp only at h
   split at h
   ·rename_i hc
    refine ⟨a, len, cap, rfl, hc.2.1, hc.2.2, fun i hi => ?_⟩
    cases hm : (List.range len).mapM fun i => (W.cells? base (a.add (i * P.cellsOf e)) (P.cellsOf e)).bind (DataW.trod enc P W base sp held n e) with
    | none => rw [hm] at h; cases h
    | some r =>
     obtain ⟨b, hb, _⟩ := (mapM_facts hm).2 i i (by simp [hi])
     obtain ⟨cs, h1, h2⟩ := Option.bind_eq_some_iff.1 hb
     exact ⟨cs, b, h1, h2⟩
   ·cases h
 | _ => simp at h
structure TreeTypes (P : Program) (tS tT : TypeId) : Prop where
 ex : ∃ ti tu ts : TypeId, ∃ f0 f1 f2 f3 f4 f5 : Field, P.underlying tS = some (.slice tT) ∧ P.underlying tT = some (.struct #[f0, f1, f2, f3, f4, f5]) ∧ P.cellsOf tT = 6 ∧
  (f0.type = ti ∧ f1.type = ti ∧ f2.type = ti ∧ f3.type = tu ∧ f4.type = ts ∧ f5.type = tS) ∧ (f0.offset = 0 ∧ f1.offset = 1 ∧ f2.offset = 2 ∧ f3.offset = 3 ∧ f4.offset = 4 ∧ f5.offset = 5) ∧
  P.underlying ti = some (.int .i64) ∧ P.underlying tu = some (.int .u64) ∧ P.underlying ts = some .string ∧ P.cellsOf ti = 1 ∧ P.cellsOf tu = 1 ∧ P.cellsOf ts = 1 ∧ P.cellsOf tS = 1
theorem trod_tree {tS tT : TypeId} (hTT : TreeTypes P tS tT) : ∀ n : Nat,
  (∀ (c : Value) (x : DataW H × List MemPlace), DataW.trod enc P W base sp held n tS [c] = some x → ∃ s : Sl, ∃ ts : List Sp.Tree, c = s.v ∧ ∀ (k f t u : Int) (tx : ByteArray), TreeAt (fun _ => True) W s (.mk k f t u tx ts)) ∧
  (∀ (cs : List Value) (x : DataW H × List MemPlace), DataW.trod enc P W base sp held n tT cs = some x → ∃ t s, cs = trow t s ∧ TreeAt (fun _ => True) W s t) := by
 obtain ⟨ti, tu, tx, f0, f1, f2, f3, f4, f5, hS, hT, hc6, ⟨e0, e1, e2, e3, e4, e5⟩, ⟨o0, o1, o2, o3, o4, o5⟩, ui, uu, us, ci, cu, cs1, cS⟩ := hTT.ex
 intro n
 induction n with
 | zero => exact ⟨fun c x h => (by cases h), fun cs x h => (by cases h)⟩
 | succ n ih =>
  refine ⟨fun c x h => ?_, fun cs x h => ?_⟩
  ·rcases trod_slice1 hS h with rfl | ⟨a, len, cap, rfl, hle, hcm, hel⟩
   ·exact ⟨Sl.nil, [], rfl, fun k f t u tx => .mk k f t u tx [] Sl.nil (fun _ => Sl.nil) rfl (by simp) (fun i h => by simp at h) (fun i h => by simp at h)⟩
   ·rw [hc6] at hel
    have hex : ∀ i, ∃ q : Sp.Tree × Sl, i < len → Row W (a.add (i * 6)) (trow q.1 q.2) ∧ TreeAt (fun _ => True) W q.2 q.1 := by
     intro i
     by_cases hi : i < len
     ·obtain ⟨cs, y, h1, h2⟩ := hel i hi
      obtain ⟨tr, s, e, hTr⟩ := ih.2 cs y h2
      exact ⟨(tr, s), fun _ => ⟨e ▸ (cells_row h1).2, hTr⟩⟩
     ·exact ⟨(Sp.Tree.mk 0 0 0 0 ⟨#[]⟩ [], Sl.nil), fun h => absurd h hi⟩
    obtain ⟨q, hq⟩ := Classical.axiomOfChoice hex
    refine ⟨⟨some a, len, cap⟩, (List.range len).map fun i => (q i).1, rfl, fun k f t u tx => .mk k f t u tx _ _ (fun i => (q i).2) (by simp) (by simp only [maxLen] at hcm; simp; omega) (fun i h => ?_) (fun i h => ?_)⟩
    ·have hi : i < len := by simpa using h
     refine ⟨a.add (i * 6), ⟨by omega, by simpa using hi, a, rfl, by simp⟩, trivial, ?_⟩
     simpa using (hq i hi).1
    ·have hi : i < len := by simpa using h
     simpa using (hq i hi).2
  ·rw [DataW.trod_step] at h
   unfold DataW.trodStep at h
   rw [hT] at h
   simp only at h
   split at h
   ·rename_i hl
    rw [hc6] at hl
    match cs, hl with
    | [c0, c1, c2, c3, c4, c5], _ =>
     cases hm : ([f0, f1, f2, f3, f4, f5] : List Field).mapM (fun f => DataW.trod enc P W base sp held n f.type ((([c0, c1, c2, c3, c4, c5] : List Value).drop f.offset).take (P.cellsOf f.type))) with
     | none => rw [hm] at h; cases h
     | some r =>
      have hf := (mapM_facts hm).2
      obtain ⟨_, h0, _⟩ := hf 0 f0 rfl
      obtain ⟨_, h1, _⟩ := hf 1 f1 rfl
      obtain ⟨_, h2, _⟩ := hf 2 f2 rfl
      obtain ⟨_, h3, _⟩ := hf 3 f3 rfl
      obtain ⟨_, h4, _⟩ := hf 4 f4 rfl
      obtain ⟨_, h5, _⟩ := hf 5 f5 rfl
      rw [e0, o0, ci] at h0; rw [e1, o1, ci] at h1; rw [e2, o2, ci] at h2; rw [e3, o3, cu] at h3; rw [e4, o4, cs1] at h4; rw [e5, o5, cS] at h5
      obtain ⟨m0, rfl⟩ := trod_int1 ui h0
      obtain ⟨m1, rfl⟩ := trod_int1 ui h1
      obtain ⟨m2, rfl⟩ := trod_int1 ui h2
      obtain ⟨m3, rfl⟩ := trod_int1 uu h3
      obtain ⟨m4, rfl⟩ := trod_str1 us h4
      obtain ⟨s, ts, rfl, hTr⟩ := ih.1 c5 _ h5
      exact ⟨.mk m0 m1 m2 m3 m4 ts, s, rfl, hTr m0 m1 m2 m3 m4⟩
   ·cases h
theorem trees_of_trod {tS tT : TypeId} (hTT : TreeTypes P tS tT) {v : Value} {d : DataW H} {ps : List MemPlace} (h : DataW.Trod enc P W base sp held tS v d ps) (hv : ∃ a n c, v = .slice a n c) :
  ∃ s : Sl, ∃ ts : List Sp.Tree, v = s.v ∧ TreeAt (fun b => b < W.heap.size) W s (.mk 0 0 0 0 ⟨#[]⟩ ts) := by
 obtain ⟨n, h⟩ := h
 obtain ⟨a, m, c, rfl⟩ := hv
 obtain ⟨s, ts, e, hT⟩ := (trod_tree hTT n).1 _ _ h
 exact ⟨s, ts, e, (hT 0 0 0 0 ⟨#[]⟩).lt.mono (fun b hb => hb.2)⟩
end
theorem treeTypes : TreeTypes Try.prog 22 116 :=
 ⟨3, 38, 9, _, _, _, _, _, _, Try.underlying22, Try.underlying116, by kernel_rfl, ⟨rfl, rfl, rfl, rfl, rfl, rfl⟩, ⟨rfl, rfl, rfl, rfl, rfl, rfl⟩, Try.underlying3, Try.underlying38, Try.underlying9, by kernel_rfl, by kernel_rfl, by kernel_rfl, by kernel_rfl⟩
end Go.Proofs
end
section
open Go Go.SE
namespace Go.Proofs
attribute [local irreducible] Calls
def strow (s : Sp.Step) : List Value := [.int .i64 s.rule, .int .i64 s.a, .int .i64 s.b, .int .i64 s.t]
def tru (_ : Unit) : Value := .bool true
def bmap (B : List Int) : List (Int × Unit) := B.map fun t => (t, ())
theorem bmap_snoc (B : List Int) (t : Int) : bmap (B ++ [t]) = bmap B ++ [(t, ())] := by simp [bmap]
def PW (ma mb : Nat) (c5 : Addr) (sl : Sl) (b : Nat) : Prop := b = ma ∨ b = mb ∨ b = c5.block ∨ sl.blk b
def says (f : FuncId) (c1 c2 c3 c4 c5 : Addr) : Value := .func (.func f) #[] #[.pointer (some c1), .pointer (some c2), .pointer (some c3), .pointer (some c4), .pointer (some c5)]
structure PrfAt (w : World) (k : Addr) (c1 c2 c3 c4 c5 : Addr) (ma mb : Nat) (sl : Sl) (l : List Sp.Step) (B : List Int) : Prop where
 a1 : w.cell? c1 = some (.map (some ma))
 a2 : w.cell? c2 = some (.map (some mb))
 a3 : w.cell? c3 = some (.pointer (some k))
 a4 : w.cell? c4 = some (says 98 c1 c2 c3 c4 c5)
 a5 : Box w c5 [sl.v] 76
 am : IMap ikey w ma (Sp.amap l)
 bm : IMap tru w mb (bmap B)
 ls : Rws w 167 4 sl (l.map strow)
 d : ∀ b, PW ma mb c5 sl b → b ≠ c1.block ∧ b ≠ c2.block ∧ b ≠ c3.block ∧ b ≠ c4.block
 n1 : ma ≠ mb
 n2 : ma ≠ c5.block
 n3 : mb ≠ c5.block
 n4 : ¬ sl.blk ma
 n5 : ¬ sl.blk mb
 n6 : ¬ sl.blk c5.block
structure SaysAt (w : World) (k p : Addr) (c1 c2 c3 c4 c5 : Addr) (ma mb : Nat) (L : Sp.Pool) (G : List Int) (S : List Sp.Way) (F FP : Nat → Prop) (sl : Sl) (l : List Sp.Step) (B : List Int) : Prop where
 prf : PrfAt w k c1 c2 c3 c4 c5 ma mb sl l B
 know : KnowAt w k p G S F
 pool : PoolAt w p L FP
 dF : ∀ b, F b → ¬ PW ma mb c5 sl b
 dP : ∀ b, FP b → ¬ PW ma mb c5 sl b
section
variable {w w' : World} {k p c1 c2 c3 c4 c5 : Addr} {ma mb : Nat} {L : Sp.Pool} {G : List Int} {S : List Sp.Way} {F FP : Nat → Prop} {sl : Sl} {l : List Sp.Step} {B : List Int}
theorem PrfAt.ext {X : Nat → Prop} (h : PrfAt w k c1 c2 c3 c4 c5 ma mb sl l B) (hE : Ext X w w') (h1 : ∀ b, PW ma mb c5 sl b → ¬ X b) (x1 : ¬ X c1.block) (x2 : ¬ X c2.block) (x3 : ¬ X c3.block) (x4 : ¬ X c4.block) : PrfAt w' k c1 c2 c3 c4 c5 ma mb sl l B :=
 ⟨hE.cell h.a1 x1, hE.cell h.a2 x2, hE.cell h.a3 x3, hE.cell h.a4 x4, h.a5.ext hE (h1 _ (.inr (.inr (.inl rfl)))), h.am.ext hE (h1 _ (.inl rfl)), h.bm.ext hE (h1 _ (.inr (.inl rfl))), h.ls.ext hE (fun b hb => h1 b (.inr (.inr (.inr hb)))), h.d, h.n1, h.n2, h.n3, h.n4, h.n5, h.n6⟩
theorem PrfAt.lt (h : PrfAt w k c1 c2 c3 c4 c5 ma mb sl l B) {b : Nat} (hb : PW ma mb c5 sl b) : b < w.heap.size := by
 rcases hb with rfl | rfl | rfl | hb
 ·exact h.am.lt
 ·exact h.bm.lt
 ·exact h.a5.lt
 ·exact h.ls.lt hb
theorem SaysAt.ext {X : Nat → Prop} {n : Nat} (h : SaysAt w k p c1 c2 c3 c4 c5 ma mb L G S F FP sl l B) (hE : Ext X w w') (hn : ∀ b, X b → n ≤ b) (z1 : ∀ b, PW ma mb c5 sl b → b < n ∨ ¬ X b) (zc : c1.block < n ∧ c2.block < n ∧ c3.block < n ∧ c4.block < n) (zF : ∀ b, F b → b < n) (zP : ∀ b, FP b → b < n) : SaysAt w' k p c1 c2 c3 c4 c5 ma mb L G S F FP sl l B := by
 have hx : ∀ b, b < n → ¬ X b := fun b hb hX => by have := hn b hX; omega
 exact ⟨h.prf.ext hE (fun b hb => (z1 b hb).elim (hx b) id) (hx _ zc.1) (hx _ zc.2.1) (hx _ zc.2.2.1) (hx _ zc.2.2.2), h.know.ext hE (fun b hb => hx b (zF b hb)), h.pool.ext hE (fun b hb => hx b (zP b hb)), h.dF, h.dP⟩
theorem SaysAt.pure (h : SaysAt w k p c1 c2 c3 c4 c5 ma mb L G S F FP sl l B) (E : Pure w w') : SaysAt w' k p c1 c2 c3 c4 c5 ma mb L G S F FP sl l B :=
 ⟨h.prf.ext E (fun _ _ h => h) (fun h => h) (fun h => h) (fun h => h) (fun h => h), h.know.pure E, h.pool.pure E, h.dF, h.dP⟩
theorem SaysAt.zc (h : SaysAt w k p c1 c2 c3 c4 c5 ma mb L G S F FP sl l B) : c1.block < w.heap.size ∧ c2.block < w.heap.size ∧ c3.block < w.heap.size ∧ c4.block < w.heap.size :=
 ⟨World.block_lt_of_cell? w _ h.prf.a1, World.block_lt_of_cell? w _ h.prf.a2, World.block_lt_of_cell? w _ h.prf.a3, World.block_lt_of_cell? w _ h.prf.a4⟩
theorem PrfAt.bar (h : PrfAt w k c1 c2 c3 c4 c5 ma mb sl l B) (t : Int) : ∃ w', (Instr.mapUpdate 163 (.map (some mb)) (.int .i64 t) (.bool true)).run Try.prog w = .ok () w' ∧ (∃ B', (B' = B ∨ B' = B ++ [t]) ∧ PrfAt w' k c1 c2 c3 c4 c5 ma mb sl l B') ∧ Ext (· = mb) w w' := by
 have hd := h.d mb (.inr (.inl rfl))
 have back : ∀ {w' : World} {B' : List Int}, IMap tru w' mb (bmap B') → Ext (· = mb) w w' → PrfAt w' k c1 c2 c3 c4 c5 ma mb sl l B' := fun hI hE =>
  ⟨hE.cell h.a1 (fun e => hd.1 e.symm), hE.cell h.a2 (fun e => hd.2.1 e.symm), hE.cell h.a3 (fun e => hd.2.2.1 e.symm), hE.cell h.a4 (fun e => hd.2.2.2 e.symm), h.a5.ext hE (fun e => h.n3 e.symm), h.am.ext hE h.n1, hI, h.ls.ext hE (fun b hb e => h.n5 (e ▸ hb)), h.d, h.n1, h.n2, h.n3, h.n4, h.n5, h.n6⟩
 cases hl : SE.look (bmap B) t with
 | none =>
  obtain ⟨w', h1, h2, h3⟩ := h.bm.put (P := Try.prog) (T := 163) Try.underlying163 Try.underlying41 hl ()
  exact ⟨w', h1, ⟨_, .inr rfl, back (by rw [bmap_snoc]; exact h2) h3⟩, h3⟩
 | some v =>
  cases v
  obtain ⟨w', h1, h2, h3⟩ := h.bm.again (P := Try.prog) (T := 163) Try.underlying163 Try.underlying41 hl
  exact ⟨w', h1, ⟨_, .inl rfl, back h2 h3⟩, h3⟩
end
structure SaysRet (w0 : World) (k p : Addr) (c1 c2 c3 c4 c5 : Addr) (ma mb : Nat) (L : Sp.Pool) (G : List Int) (S : List Sp.Way) (F FP : Nat → Prop) (sl : Sl) (l : List Sp.Step) (t r : Int) (ok : Bool) (w' : World) (sl' : Sl) (M : List Sp.Step) (B' : List Int) : Prop where
 st : SaysAt w' k p c1 c2 c3 c4 c5 ma mb L G S F FP sl' (l ++ M) B'
 prf : Sp.PrfOk L G (fun x => x ∈ Sp.wkeys S) (l ++ M) B'
 new : ∀ s ∈ M, Sp.rank S s.t ≤ Sp.rank S t ∧ (Sp.Sub L t s.t ∨ s.t ∈ Sp.wkeys S)
 idx : ok = true → ∃ i, r = ((i : Nat) : Int) ∧ ∃ hi : i < (l ++ M).length, (l ++ M)[i].t = t
 drv : ok = true ↔ Sp.Drv L (fun x => x ∈ Sp.wkeys S) t
 ext : Ext (PW ma mb c5 sl) w0 w'
 own : ∀ b, sl'.blk b → sl.blk b ∨ w0.heap.size ≤ b
 last : ok = true → M = [] ∨ Sp.tAt (l ++ M) (((l ++ M).length : Int) - 1) = t
structure SaysCur (w0 : World) (H : Nat → Prop) (w : World) (k p : Addr) (c1 c2 c3 c4 c5 : Addr) (ma mb : Nat) (L : Sp.Pool) (G : List Int) (S : List Sp.Way) (F FP : Nat → Prop) (sl : Sl) (l : List Sp.Step) (t : Int) (sl1 : Sl) (M B : _) : Prop where
 st : SaysAt w k p c1 c2 c3 c4 c5 ma mb L G S F FP sl1 (l ++ M) B
 prf : Sp.PrfOk L G (fun x => x ∈ Sp.wkeys S) (l ++ M) B
 new : ∀ s ∈ M, Sp.rank S s.t < Sp.rank S t ∧ (Sp.Sub L t s.t ∨ s.t ∈ Sp.wkeys S)
 ext : Ext (PW ma mb c5 sl) w0 w
 own : ∀ b, sl1.blk b → sl.blk b ∨ w0.heap.size ≤ b
 vis : ∀ b, sl1.blk b → ¬ H b
 hs : Hst w0 H w H w
section
variable {w0 w w' : World} {H H' : Nat → Prop} {k p c1 c2 c3 c4 c5 : Addr} {ma mb : Nat} {L : Sp.Pool} {G : List Int} {S : List Sp.Way} {F FP : Nat → Prop} {sl sl1 sl2 : Sl} {l M M2 : List Sp.Step} {B0 B B2 : List Int} {t : Int}
theorem PW.old (h : SaysAt w0 k p c1 c2 c3 c4 c5 ma mb L G S F FP sl l B0) (ho : ∀ b, sl1.blk b → sl.blk b ∨ w0.heap.size ≤ b) : ∀ b, PW ma mb c5 sl1 b → b < w0.heap.size → PW ma mb c5 sl b := by
 rintro b (hb | hb | hb | hb) hlt
 ·exact .inl hb
 ·exact .inr (.inl hb)
 ·exact .inr (.inr (.inl hb))
 ·exact (ho b hb).elim (fun h => .inr (.inr (.inr h))) (fun h => by omega)
theorem SaysCur.nh (h : SaysCur w0 H w k p c1 c2 c3 c4 c5 ma mb L G S F FP sl l t sl1 M B) (h0 : SaysAt w0 k p c1 c2 c3 c4 c5 ma mb L G S F FP sl l B0) : ∀ b, PW ma mb c5 sl1 b → ¬ H b := by
 have old : ∀ b, b < w0.heap.size → ¬ H b := fun b hb hh => by have := h.hs.old b hh; omega
 rintro b (rfl | rfl | rfl | hb)
 ·exact old _ (h0.prf.lt (.inl rfl))
 ·exact old _ (h0.prf.lt (.inr (.inl rfl)))
 ·exact old _ (h0.prf.lt (.inr (.inr (.inl rfl))))
 ·exact h.vis b hb
theorem SaysCur.hst (h : SaysCur w0 H w k p c1 c2 c3 c4 c5 ma mb L G S F FP sl l t sl1 M B) (h0 : SaysAt w0 k p c1 c2 c3 c4 c5 ma mb L G S F FP sl l B0) (hs : Hst w0 H w H' w') : SaysCur w0 H' w' k p c1 c2 c3 c4 c5 ma mb L G S F FP sl l t sl1 M B := by
 have dj := hs.disj (G := PW ma mb c5 sl1) (fun b hb => ⟨h.st.prf.lt hb, h.nh h0 b hb⟩)
 exact ⟨h.st.ext hs.ext hs.old (fun b hb => .inr (dj b hb)) h0.zc (fun b hb => h0.know.lt hb) (fun b hb => h0.pool.lt hb), h.prf, h.new, h.ext.hst hs, h.own, fun b hb => dj b (.inr (.inr (.inr hb))), hs.here⟩
theorem SaysCur.step {u r : Int} {ok : Bool} (h : SaysCur w0 H w k p c1 c2 c3 c4 c5 ma mb L G S F FP sl l t sl1 M B) (h0 : SaysAt w0 k p c1 c2 c3 c4 c5 ma mb L G S F FP sl l B0) (hr : SaysRet w k p c1 c2 c3 c4 c5 ma mb L G S F FP sl1 (l ++ M) u r ok w' sl2 M2 B2) (hu : Sp.rank S u < Sp.rank S t) (hsub : Sp.Sub L t u ∨ u ∈ Sp.wkeys S) (hcl : ∀ x, u ∈ Sp.wkeys S → Sp.rank S x ≤ Sp.rank S u → x ∈ Sp.wkeys S) :
  Kept H w w' ∧ SaysCur w0 H w' k p c1 c2 c3 c4 c5 ma mb L G S F FP sl l t sl2 (M ++ M2) B2 := by
 have hk : Kept H w w' := hr.ext.kept (fun b hb hx => h.nh h0 b hx hb)
 refine ⟨hk, by rw [← List.append_assoc]; exact hr.st, by rw [← List.append_assoc]; exact hr.prf, fun s hs => ?_, h.ext.trans' hr.ext (fun i hi hb => PW.old h0 h.own i hb hi), fun b hb => ?_, fun b hb hh => ?_, h.hs.again hk⟩
 ·rcases List.mem_append.1 hs with hs | hs
  ·exact h.new s hs
  ·obtain ⟨q1, q2⟩ := hr.new s hs
   refine ⟨by omega, ?_⟩
   rcases q2 with q2 | q2
   ·rcases hsub with h1 | h1
    ·exact .inl (h1.trans q2)
    ·exact .inr (hcl _ h1 q1)
   ·exact .inr q2
 ·rcases hr.own b hb with h1 | h1
  ·exact h.own b h1
  ·right; have := h.ext.size; omega
 ·rcases hr.own b hb with h1 | h1
  ·exact h.vis b h1 hh
  ·have := h.hs.lt b hh; omega
end
end Go.Proofs
end
section
open Go Go.SE
namespace Go.Proofs
section
variable {H : Type} {enc : TypeId × Value → H} {P : Program} {W : World} {base : Nat} {sp : Nat → Bool} {held : Bool}
theorem row_lt {a : Addr} {v : Value} {vs : List Value} (h : Row W a (v :: vs)) : a.block < W.heap.size := by
 have := h 0 (by simp)
 have := World.block_lt_of_cell? W (a.add 0) this
 rwa [add_block] at this
theorem list_of_trod {α : Type} {tS e : TypeId} {sz : Nat} {f : α → List Value} (hS : P.underlying tS = some (.slice e)) (hc : P.cellsOf e = sz) (hf : ∀ a, ∃ v vs, f a = v :: vs) (x0 : α)
  (hel : ∀ (n : Nat) (cs : List Value) (x : DataW H × List MemPlace), DataW.trod enc P W base sp held n e cs = some x → ∃ a, cs = f a) {n : Nat} {c : Value} {x : DataW H × List MemPlace} (h : DataW.trod enc P W base sp held n tS [c] = some x) :
  ∃ s : Sl, ∃ xs : List α, c = s.v ∧ Lst (fun b => b < W.heap.size) W sz s (xs.map f) := by
 cases n with
 | zero => cases h
 | succ n =>
  rcases trod_slice1 hS h with rfl | ⟨a, len, cap, rfl, hle, hcm, hall⟩
  ·exact ⟨Sl.nil, [], rfl, ⟨rfl, fun i hi => by simp at hi⟩⟩
  ·rw [hc] at hall
   have hex : ∀ i, ∃ q : α, i < len → Row W (a.add (i * sz)) (f q) := by
    intro i
    by_cases hi : i < len
    ·obtain ⟨cs, y, h1, h2⟩ := hall i hi
     obtain ⟨q, rfl⟩ := hel n cs y h2
     exact ⟨q, fun _ => (cells_row h1).2⟩
    ·exact ⟨x0, fun h => absurd h hi⟩
   obtain ⟨q, hq⟩ := Classical.axiomOfChoice hex
   refine ⟨⟨some a, len, cap⟩, (List.range len).map q, rfl, ⟨by simp, fun i hi => ?_⟩⟩
   have hi : i < len := by simpa using hi
   have hr := hq i hi
   obtain ⟨v, vs, e⟩ := hf (q i)
   refine ⟨a.add (i * sz), ⟨by omega, by simpa using hi, a, rfl, by simp⟩, ?_, by simpa using hr⟩
   rw [e] at hr; exact row_lt hr
theorem trod_fields {t : TypeId} {fs : Array Field} (ht : P.underlying t = some (.struct fs)) {n : Nat} {cs : List Value} {x : DataW H × List MemPlace} (h : DataW.trod enc P W base sp held n t cs = some x) :
  ∃ m, cs.length = P.cellsOf t ∧ ∀ (i : Nat) (f : Field), fs.toList[i]? = some f → ∃ y, DataW.trod enc P W base sp held m f.type ((cs.drop f.offset).take (P.cellsOf f.type)) = some y := by
 cases n with
 | zero => cases h
 | succ n =>
  rw [DataW.trod_step] at h
  unfold DataW.trodStep at h
  rw [ht] at h
  simp only at h
  split at h
  ·rename_i hl
   cases hm : fs.toList.mapM (fun f => DataW.trod enc P W base sp held n f.type ((cs.drop f.offset).take (P.cellsOf f.type))) with
   | none => rw [hm] at h; cases h
   | some r =>
    refine ⟨n, hl, fun i f hf => ?_⟩
    obtain ⟨b, hb, _⟩ := (mapM_facts hm).2 i f hf
    exact ⟨b, hb⟩
  ·cases h
end
section
variable {H : Type} {enc : TypeId × Value → H} {W : World} {base : Nat} {sp : Nat → Bool} {held : Bool}
end
end Go.Proofs
end
section
open Go Go.SE
namespace Go.Proofs
set_option maxRecDepth 100000 in
theorem op_of_trod {H : Type} {enc : TypeId × Value → H} {W : World} {base : Nat} {sp : Nat → Bool} {held : Bool} {n : Nat} {cs : List Value} {x : DataW H × List MemPlace} (h : DataW.trod enc Try.prog W base sp held n 175 cs = some x) : ∃ s, cs = oprow s := by
 obtain ⟨m, hl, hf⟩ := trod_fields Try.underlying175 h
 rw [show (Try.prog.cellsOf 175) = 5 by kernel_rfl] at hl
 match cs, hl with
 | [c0, c1, c2, c3, c4], _ =>
  obtain ⟨_, h0⟩ := hf 0 _ rfl
  obtain ⟨_, h1⟩ := hf 1 _ rfl
  obtain ⟨_, h2⟩ := hf 2 _ rfl
  obtain ⟨_, h3⟩ := hf 3 _ rfl
  obtain ⟨_, h4⟩ := hf 4 _ rfl
  simp only [show (Try.prog.cellsOf 3) = 1 by kernel_rfl, show (Try.prog.cellsOf 38) = 1 by kernel_rfl, show (Try.prog.cellsOf 9) = 1 by kernel_rfl] at h0 h1 h2 h3 h4
  obtain ⟨m0, rfl⟩ := trod_int1 Try.underlying3 h0
  obtain ⟨m1, rfl⟩ := trod_int1 Try.underlying3 h1
  obtain ⟨m2, rfl⟩ := trod_int1 Try.underlying3 h2
  obtain ⟨m3, rfl⟩ := trod_int1 Try.underlying38 h3
  obtain ⟨m4, rfl⟩ := trod_str1 Try.underlying9 h4
  exact ⟨⟨m0, m1, m2, m3, m4⟩, rfl⟩
set_option maxRecDepth 100000 in
theorem ops_in {H : Type} {enc : TypeId × Value → H} {W : World} {base : Nat} {sp : Nat → Bool} {held : Bool} {n : Nat} {c : Value} {x : DataW H × List MemPlace} (h : DataW.trod enc Try.prog W base sp held n 98 [c] = some x) : ∃ s : Sl, ∃ l : List Sp.Op, c = s.v ∧ Lst (fun b => b < W.heap.size) W 5 s (l.map oprow) :=
 list_of_trod (sz := 5) (f := oprow) Try.underlying98 (by kernel_rfl) (fun a => ⟨_, _, rfl⟩) ⟨0, 0, 0, 0, ⟨#[]⟩⟩ (fun _ _ _ h => op_of_trod h) h
end Go.Proofs
end
