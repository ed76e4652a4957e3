import Derived.Test.YtcldldjildmdlaaGreatPa4
import Derived.Test.YtcldldjildmdlaaGreatPa5
import Derived.Test.YtcldldjildmdlaaGreatPa2
import Derived.Test.YtcldldjildmdlaaGreatProg
import Derived.KernelRfl
import Derived.RangeFuncSeq
import Derived.RangeFuncIn
section
open Go Go.SE
namespace Go.Sp
def l8a : Node := ⟨2, 0, 0, 1, ⟨#[]⟩, 0, 0⟩
def l8b : Node := ⟨1, 2, 0, 0, ⟨#[]⟩, 0, 0⟩
def l8c : Node := ⟨4, 0, 0, 0, ⟨#[]⟩, 1, 2⟩
def l8s : Node := ⟨7, 0, 0, 0, ⟨#[]⟩, 3, 0⟩
def l8h : Node := ⟨5, 0, 0, 0, ⟨#[]⟩, 1, 0⟩
def l8k : Node := ⟨6, 0, 0, 0, ⟨#[]⟩, 0, 0⟩
def l8u : Node := ⟨7, 0, 0, 0, ⟨#[]⟩, 1, 0⟩
def l81 : Pool := [⟨l8a, 1, 1⟩]
def l82 : Pool := [⟨l8a, 1, 1⟩, ⟨l8b, 1, 1⟩]
def l83 : Pool := [⟨l8a, 1, 1⟩, ⟨l8b, 1, 1⟩, ⟨l8c, 3, 2⟩]
def l84 : Pool := [⟨l8a, 1, 1⟩, ⟨l8b, 1, 1⟩, ⟨l8c, 3, 2⟩, ⟨l8s, 4, 3⟩]
def l85 : Pool := [⟨l8a, 1, 1⟩, ⟨l8b, 1, 1⟩, ⟨l8c, 3, 2⟩, ⟨l8s, 4, 3⟩, ⟨l8h, 2, 2⟩]
def l86 : Pool := [⟨l8a, 1, 1⟩, ⟨l8b, 1, 1⟩, ⟨l8c, 3, 2⟩, ⟨l8s, 4, 3⟩, ⟨l8h, 2, 2⟩, ⟨l8k, 1, 1⟩]
def l87 : Pool := [⟨l8a, 1, 1⟩, ⟨l8b, 1, 1⟩, ⟨l8c, 3, 2⟩, ⟨l8s, 4, 3⟩, ⟨l8h, 2, 2⟩, ⟨l8k, 1, 1⟩, ⟨l8u, 2, 2⟩]
theorem l8m1 : make [] l8a = (1, 0, l81) := by kernel_rfl
theorem l8m2 : make l81 l8b = (2, 0, l82) := by kernel_rfl
theorem l8m3 : make l82 l8c = (3, 0, l83) := by kernel_rfl
theorem l8m4 : make l83 l8s = (4, 0, l84) := by kernel_rfl
theorem l8m5 : make l84 l8h = (5, 0, l85) := by kernel_rfl
theorem l8m6 : make l85 l8k = (6, 0, l86) := by kernel_rfl
theorem l8m7 : make l86 l8u = (7, 0, l87) := by kernel_rfl
theorem l8w1 : Wf l81 := by have := make_wf Wf.nil l8a; rwa [l8m1] at this
theorem l8w2 : Wf l82 := by have := make_wf l8w1 l8b; rwa [l8m2] at this
theorem l8w3 : Wf l83 := by have := make_wf l8w2 l8c; rwa [l8m3] at this
theorem l8w4 : Wf l84 := by have := make_wf l8w3 l8s; rwa [l8m4] at this
theorem l8w5 : Wf l85 := by have := make_wf l8w4 l8h; rwa [l8m5] at this
theorem l8w6 : Wf l86 := by have := make_wf l8w5 l8k; rwa [l8m6] at this
theorem l8w7 : Wf l87 := by have := make_wf l8w6 l8u; rwa [l8m7] at this
theorem l8n : nodeOf l87 1 = l8a ∧ nodeOf l87 2 = l8b ∧ nodeOf l87 3 = l8c ∧ nodeOf l87 4 = l8s ∧ nodeOf l87 5 = l8h ∧ nodeOf l87 6 = l8k ∧ nodeOf l87 7 = l8u := ⟨by kernel_rfl, by kernel_rfl, by kernel_rfl, by kernel_rfl, by kernel_rfl, by kernel_rfl, by kernel_rfl⟩
theorem l8in : inP l87 4 = true ∧ inP l87 6 = true ∧ inP l87 99 = false := ⟨by kernel_rfl, by kernel_rfl, by kernel_rfl⟩
theorem l8key : keyOf l87 0 = (6, true) := by kernel_rfl
theorem l8see {G : List Int} (hG : ∀ t ∈ G, t = 4 ∨ t = 6) {t : Int} (h : Seen l87 G t) : (t = 4 ∨ t = 3 ∨ t = 1 ∨ t = 2) ∨ t = 6 := by
 induction h with
 | given hg => rcases hG _ hg with h | h <;> simp [h]
 | «from» _ ha ih =>
  obtain ⟨n1, n2, n3, n4, _, n6, _⟩ := l8n
  rcases ih with (rfl | rfl | rfl | rfl) | rfl
  ·unfold Arises at ha; rw [n4] at ha; simp [l8s, showsK] at ha; left; omega
  ·unfold Arises at ha; rw [n3] at ha; simp [l8c, showsK] at ha; left; omega
  ·unfold Arises at ha; rw [n1] at ha; simp [l8a, showsK] at ha
  ·unfold Arises at ha; rw [n2] at ha; simp [l8b, showsK] at ha
  ·unfold Arises at ha; rw [n6] at ha; simp [l8k, showsK] at ha
theorem l8see6 {t : Int} (h : Seen l87 [4] t) : t = 4 ∨ t = 3 ∨ t = 1 ∨ t = 2 := by
 induction h with
 | given hg => simp at hg; simp [hg]
 | «from» _ ha ih =>
  obtain ⟨n1, n2, n3, n4, _, _, _⟩ := l8n
  rcases ih with rfl | rfl | rfl | rfl
  ·unfold Arises at ha; rw [n4] at ha; simp [l8s, showsK] at ha; omega
  ·unfold Arises at ha; rw [n3] at ha; simp [l8c, showsK] at ha; omega
  ·unfold Arises at ha; rw [n1] at ha; simp [l8a, showsK] at ha
  ·unfold Arises at ha; rw [n2] at ha; simp [l8b, showsK] at ha
theorem l8seen {G : List Int} (h : 4 ∈ G) : Seen l87 G 1 := by
 obtain ⟨_, _, n3, n4, _, _, _⟩ := l8n
 refine .from (r := 1) (u := 3) (.from (r := 3) (u := 4) (.given h) (.inr (.inr ⟨rfl, ?_, ?_⟩))) (.inl ⟨rfl, ?_, ?_⟩)
 ·rw [n4]; rfl
 ·rw [n4]; rfl
 ·rw [n3]; rfl
 ·rw [n3]; rfl
theorem l8hash {K : Int → Prop} : Drv l87 K 5 := by
 obtain ⟨n1, _, _, _, n5, _, _⟩ := l8n
 refine .hash (by rw [n5]; rfl) (.free ?_)
 rw [n5]; show freeK (nodeOf l87 1).kind = true; rw [n1]; rfl
theorem l8u_no {K : Int → Prop} (h7 : ¬ K 7) (h6 : ¬ K 6) : ¬ Drv l87 K 7 := fun h => by
 obtain ⟨_, _, _, _, _, _, n7⟩ := l8n
 rcases h.inv with h | h | ⟨h, _⟩ | ⟨h, _⟩ | ⟨_, _, _, h⟩
 ·exact h7 h
 ·rw [n7] at h; cases h
 ·rw [n7] at h; cases h
 ·rw [n7] at h; cases h
 ·rw [n7] at h
  have : keyOf l87 (whoOf l8u) = (6, true) := l8key
  rw [this] at h; exact h6 h
theorem l8u_yes {K : Int → Prop} (h6 : K 6) : Drv l87 K 7 := by
 obtain ⟨n1, _, _, _, _, _, n7⟩ := l8n
 have hk : keyOf l87 (whoOf l8u) = (6, true) := l8key
 refine .signed (by rw [n7]; rfl) (.free ?_) (by rw [n7, hk]) (by rw [n7, hk]; exact h6)
 rw [n7]; show freeK (nodeOf l87 1).kind = true; rw [n1]; rfl
theorem KnowOk.nil (L : Pool) : KnowOk L [] [] := ⟨⟨by simp [wkeys], by simp [wkeys], fun i hi => by simp at hi⟩, by simp [wkeys], by simp, by simp⟩
end Go.Sp
end
section
open Go Go.SE
namespace Go.Proofs
attribute [local irreducible] Calls
theorem append_in {P : Program} {t ty e : TypeId} {sz bytes : Nat} (T : SlType P t e sz bytes) {w : World} {p : Addr} {c : List Value} {Tp : TypeId} (hB : Box w p c Tp) {s : Sl} {rs : List (List Value)} (hR : Rws w e sz s rs) (hp : ¬ s.blk p.block) {a : Addr} {r : List Value} (hr : Row w a r) (hl : r.length = sz) (h1 : r.all oneCell = true) (hb : (rs.length + 1) * bytes ≤ 140737488355328) (hm : rs.length + 1 ≤ maxLen) :
  ∃ s' w', (Builtin.append_ #[t, t] ty #[s.v, (Sl.mk (some a) 1 1).v]).run P w = .ok s'.v w' ∧ Rws w' e sz s' (rs ++ [r]) ∧ Box w' p c Tp ∧ ¬ s'.blk p.block ∧ Ext s.blk w w' ∧ (∀ b, s'.blk b → s.blk b ∨ w.heap.size ≤ b) := by
 obtain ⟨s', w', hr', hR', hE, hb'⟩ := hR.append T (ty := ty) (c := 1) hr hl h1 hb hm
 exact ⟨s', w', hr', hR', hB.ext hE hp, fun h => (hb' _ h).elim hp (fun h => by have := hB.lt; omega), hE, hb'⟩
theorem plainErr_val (n : Sp.Node) : Sp.plainErr n = 53 ∨ Sp.plainErr n = 0 := by
 unfold Sp.plainErr; simp only; split
 ·exact .inl rfl
 ·exact .inr rfl
theorem c_ref05_Make (p : Addr) (n : Sp.Node) (w0 : World) {L : Sp.Pool} {F : NP} (hP : PoolR w0 p L F) (hok : Sp.Ok L) : Calls Tryz.prog 41 #[.pointer (some p), nkey n] w0
  (fun e w' => ∃ r1 r2 : Int, e = .returned (.tuple #[.int .i64 r1, .int .i64 r2]) ∧ ((r1, r2) = ((Sp.make L n).1, (Sp.make L n).2.1) ∧ ∃ F', PoolR w' p (Sp.make L n).2.2 F' ∧ Ext F w0 w' ∧ ∀ b, F' b → F b ∨ w0.heap.size ≤ b)) := by
 obtain ⟨k, f, t, u, x, a, b⟩ := n
 generalize hn : (⟨k, f, t, u, x, a, b⟩ : Sp.Node) = n
 have hnk : nkey n = .agg #[.int .i64 k, .int .i64 f, .int .i64 t, .int .u64 u, .string x, .int .i64 a, .int .i64 b] := by rw [← hn]; rfl
 rw [hnk]
 suffices key : ∀ K : Int → Int → WP, (∀ r1 r2 w', ((r1, r2) = ((Sp.make L n).1, (Sp.make L n).2.1) ∧ ∃ F', PoolR w' p (Sp.make L n).2.2 F' ∧ Ext F w0 w' ∧ ∀ b, F' b → F b ∨ w0.heap.size ≤ b) → K r1 r2 w') → m_Q (some p) k f t u x a b w0 K from
  w_Q _ _ _ _ _ _ _ _ w0 _ (key _ (fun _ _ _ h => h))
 intro K hK
 have hsh := ref05_shape n
 have hkd := ref05_kids k
 rw [← hn] at hsh
 simp only at hsh
 rw [hn] at hsh
 have hna : n.a = a := by rw [← hn]
 have hnb : n.b = b := by rw [← hn]
 have hnkk : n.kind = k := by rw [← hn]
 have hk := Sp.kids_le k
 have same : ∀ (r1 r2 : Int) (w' : World), Pure w0 w' → Sp.make L n = (r1, r2, L) → K r1 r2 w' := fun r1 r2 w' E h => hK _ _ _ ⟨by rw [h], F, by rw [h]; exact hP.pure E, E.pure, fun b h => .inl h⟩
 have bad : ∀ (er : Int) (w' : World), er ≠ 0 → Pure w0 w' → Sp.check L n = (0, 0, er) → K 0 er w' := fun er w' h0 E h => same 0 er w' E (by unfold Sp.make; simp [h, h0])
 unfold m_Q
 rw [hsh, hkd]
 have good : Sp.nodeErr n = 0 → Sp.check L n = (if (Sp.kidsOf n).any (fun t => !Sp.inP L t) then (0, 0, 51) else if 1 + ((Sp.kidsOf n).map (Sp.sizeOf L)).sum > 4096 ∨ (Sp.kidsOf n).foldl (fun d t => max d (Sp.depthOf L t)) 0 + 1 > 64 then (0, 0, 52) else (1 + ((Sp.kidsOf n).map (Sp.sizeOf L)).sum, (Sp.kidsOf n).foldl (fun d t => max d (Sp.depthOf L t)) 0 + 1, 0)) := by
  intro h
  unfold Sp.nodeErr at h
  unfold Sp.check
  split at h
  ·cases h
  ·rename_i h1
   simp only
   rw [if_neg h1]
   split at h
   ·cases h
   ·rename_i h2
    rw [if_neg h2, if_neg (by simpa using h)]
 refine ⟨fun h => ?_, fun h => ?_⟩
 ·intro H1 w2 hs2
  have h : Sp.nodeErr n ≠ 0 := by simpa using h
  refine bad _ _ h hs2.first ?_
  unfold Sp.nodeErr at h ⊢
  unfold Sp.check
  by_cases h1 : Sp.plainErr n ≠ 0
  ·rw [if_pos h1, if_pos h1]
   have : Sp.plainErr n = 53 := (plainErr_val n).resolve_right h1
   rw [this]
  ·rw [if_neg h1] at h ⊢
   simp only
   rw [if_neg h1]
   by_cases h2 : ((decide ((Sp.shapeOf n.kind).kids < 1) && n.a != 0) || (decide ((Sp.shapeOf n.kind).kids < 2) && n.b != 0)) = true
   ·rw [if_pos h2, if_pos h2]
   ·rw [if_neg h2] at h ⊢; rw [if_neg h2, if_pos h]
 have h0 : Sp.nodeErr n = 0 := by simpa using h
 have hchk := good h0
 have hzero : ((Sp.shapeOf k).kids < 1 → a = 0) ∧ ((Sp.shapeOf k).kids < 2 → b = 0) := by
  unfold Sp.nodeErr at h0
  split at h0
  ·cases h0
  ·split at h0
   ·cases h0
   ·rename_i _ h2
    rw [hnkk, hna, hnb] at h2
    simp at h2
    exact h2
 have hz0 : Sp.inP L 0 = false := by simp [Sp.inP]
 have hs0 : Sp.sizeOf L 0 = 0 := by simp [Sp.sizeOf, Sp.get, hz0]
 have hd0 : Sp.depthOf L 0 = 0 := by simp [Sp.depthOf, Sp.get, hz0]
 have hsa := hok.sizeOf a
 have hsb := hok.sizeOf b
 have hda := hok.depthOf a
 have hdb := hok.depthOf b
 have hany : (Sp.kidsOf n).any (fun t => !Sp.inP L t) = ((decide (1 ≤ (Sp.shapeOf k).kids) && !Sp.inP L a) || (decide ((Sp.shapeOf k).kids = 2) && !Sp.inP L b)) := by
  unfold Sp.kidsOf; rw [hnkk, hna, hnb]
  rcases hk with h | h | h <;> rw [h] <;> simp
 have hsum : ((Sp.kidsOf n).map (Sp.sizeOf L)).sum = Sp.sizeOf L a + Sp.sizeOf L b := by
  unfold Sp.kidsOf; rw [hnkk, hna, hnb]
  rcases hk with h | h | h <;> rw [h] <;> simp
  ·rw [hzero.1 (by omega), hzero.2 (by omega), hs0]; rfl
  ·rw [hzero.2 (by omega), hs0]; omega
 have hmax : (Sp.kidsOf n).foldl (fun d t => max d (Sp.depthOf L t)) 0 = max (Sp.depthOf L a) (Sp.depthOf L b) := by
  unfold Sp.kidsOf; rw [hnkk, hna, hnb]
  rcases hk with h | h | h <;> rw [h] <;> simp
  ·rw [hzero.1 (by omega), hzero.2 (by omega), hd0]; omega
  ·rw [hzero.2 (by omega), hd0]; omega
  ·omega
 rw [hany, hsum, hmax] at hchk
 have J1 : ∀ (x1 : Bool) (H : NP) (w : World), Hst w0 H w H w → Pure w0 w → x1 = ((decide (1 ≤ (Sp.shapeOf k).kids) && !Sp.inP L a) || (decide ((Sp.shapeOf k).kids = 2) && !Sp.inP L b)) → m_Q_j1 (some p) k f t u x a b x1 w0 H w K := by
  intro x1 H w hs E hx
  rw [← hx] at hchk
  unfold m_Q_j1
  refine ⟨fun h => bad 51 w (by omega) E (by rw [hchk, h]; rfl), fun h => ?_⟩
  rw [h, if_neg (by simp)] at hchk
  refine ⟨fun _ => True, trivial, ?_⟩
  rintro _ rfl
  have Ed : Pure w0 w.drew := E.trans (Ext.drew w)
  refine (c_ref05_Size p a w.drew (hP.pure Ed) hok).mono ?_
  rintro _ _ ⟨_, rfl, rfl, rfl⟩
  refine ⟨_, rfl, trivial, Kept.refl _, ?_⟩
  refine (c_ref05_Size p b w.drew (hP.pure Ed) hok).mono ?_
  rintro _ _ ⟨_, rfl, rfl, rfl⟩
  refine ⟨_, rfl, trivial, Kept.refl _, fun _ => True, trivial, ?_⟩
  rintro _ rfl
  have Ed2 : Pure w0 w.drew.drew := Ed.trans (Ext.drew w.drew)
  refine (c_ref05_Depth p a w.drew.drew (hP.pure Ed2) hok).mono ?_
  rintro _ _ ⟨_, rfl, rfl, rfl⟩
  refine ⟨_, rfl, trivial, Kept.refl _, ?_⟩
  refine (c_ref05_Depth p b w.drew.drew (hP.pure Ed2) hok).mono ?_
  rintro _ _ ⟨_, rfl, rfl, rfl⟩
  refine ⟨_, rfl, trivial, Kept.refl _, _, fun w' _ => run_max_int2 _ _ _ _ _ _ _, ?_⟩
  have hmx : (if Sp.depthOf L b > Sp.depthOf L a then Sp.depthOf L b else Sp.depthOf L a) = max (Sp.depthOf L a) (Sp.depthOf L b) := by
   split <;> omega
  generalize hz : (if Sp.depthOf L b > Sp.depthOf L a then Sp.depthOf L b else Sp.depthOf L a) = z at *
  have hz64 : 0 ≤ z ∧ z ≤ 64 := by rw [hmx]; omega
  have e1 : IntKind.i64.wrap (IntKind.i64.wrap (1 + Sp.sizeOf L a) + Sp.sizeOf L b) = 1 + (Sp.sizeOf L a + Sp.sizeOf L b) := by
   rw [i64 (n := 1 + Sp.sizeOf L a) (by omega) (by omega), i64 (by omega) (by omega)]; omega
  have e2 : IntKind.i64.wrap (1 + z) = z + 1 := by rw [i64 (by omega) (by omega)]; omega
  rw [e1, e2]
  rw [← hmx] at hchk
  rintro y1 rfl
  have hsx : Hst w0 H w.drew.drew H w.drew.drew := (hs.drew.here.drew).here
  refine ⟨fun h => ?_, fun h => ?_⟩
  ·intro H2 w10 hs10
   refine bad 52 w10 (by omega) (Ed2.hst hs10) ?_
   rw [hchk, if_pos (by simpa using h)]
  ·intro H2 w10 hs10
   have hck : Sp.check L n = (1 + (Sp.sizeOf L a + Sp.sizeOf L b), z + 1, 0) := by rw [hchk, if_neg (by simp at h; omega)]
   have E10 := Ed2.hst hs10
   rw [← hnk]
   refine (c_ref05_Has p n w10 (hP.pure E10) hok).mono ?_
   rintro _ w11 ⟨r, ok, rfl, hfd, E11⟩
   refine ⟨_, _, rfl, E11.keptP, ?_⟩
   have E11' := E10.trans E11
   have hs11 : Hst w0 H2 w11 H2 w11 := hs10.again E11.keptP
   cases hf : Sp.find L n with
   | some i =>
    rw [hf] at hfd
    obtain ⟨rfl, rfl⟩ := hfd
    exact Br.t rfl (same _ _ _ E11' (by unfold Sp.make; simp [hck, hf]))
   | none =>
    rw [hf] at hfd
    obtain ⟨rfl, rfl⟩ := hfd
    refine Br.f rfl ?_
    obtain ⟨s1, s2, s3, hS, hF⟩ := hP.pure E11'
    have hlen : s1.len = L.length := by rw [hS.r1.len]; simp
    refine ⟨p, rfl, s1, hS.box.cell0, fun h => ?_, fun h => ?_⟩
    ·have h2 : 65536 ≤ L.length := by have h := of_decide_eq_true h; omega
     exact same _ _ _ E11' (by unfold Sp.make; simp [hck, hf, h2])
    ·have h2 : ¬ 65536 ≤ L.length := by have h := of_decide_eq_false h; omega
     have hmk : Sp.make L n = ((L.length : Int) + 1, 0, L ++ [⟨n, 1 + (Sp.sizeOf L a + Sp.sizeOf L b), z + 1⟩]) := by unfold Sp.make; simp [hck, hf, h2]
     have hvis : ∀ b, F b → ¬ H2 b := fun b hb h2 => by have := hP.lt hb; have := hs11.old b h2; omega
     have hpF : F p.block := (hF _).2 (.inl rfl)
     refine ⟨fun w' => w'.cell? p = some s1.v, hS.box.cell0, ?_⟩
     rintro _ rfl
     have E12 : Pure w11 w11.drew := Ext.drew w11
     refine ⟨p, rfl, s1, fun w' h' => h', ?_⟩
     intro p3 w13 h13
     have E13 : Pure w11 w13 := E12.trans (Ext.new h13)
     have B13 := hS.box.pure E13
     refine ⟨B13.cell0, ?_⟩
     obtain ⟨t1, w14, hr14, R14, B14, np1, X14, nb1⟩ := append_in (P := Tryz.prog) (ty := 42) slT_node B13 (hS.r1.pure E13) hS.n1 (a := p3) (r := nrow n) (by rw [← hn]; exact (Box.of_new h13).row) rfl rfl (by simp; omega) (by simp [maxLen]; omega)
     refine ⟨t1, w14, hr14, B14.cell0, X14.kept (fun b hb h => hvis b ((hF b).2 (.inr (.inl h))) hb), p, rfl, B14.canW0 (by simp), hvis _ hpF, ?_⟩
     rintro w15 hw15
     have B15 : Box w15 p [t1.v, s2.v, s3.v] 45 := by rw [hw15]; exact B14.set0
     have X15 : Ext (· = p.block) w14 w15 := by rw [hw15]; exact Ext.setCell p _
     clear hw15
     have R15 := R14.ext X15 (fun b hb e => np1 (e ▸ hb))
     have R2 := ((hS.r2.pure E13).ext X14 (fun b h2 h1 => hS.d12 b h1 h2)).ext X15 (fun b hb e => hS.n2 (e ▸ hb))
     have R3 := ((hS.r3.pure E13).ext X14 (fun b h2 h1 => hS.d13 b h1 h2)).ext X15 (fun b hb e => hS.n3 (e ▸ hb))
     have d12' : ∀ b, t1.blk b → ¬ s2.blk b := fun b hb h2 => (nb1 b hb).elim (fun h => hS.d12 b h h2) (fun h => by have := hS.r2.lt h2; have := E13.size; omega)
     have d13' : ∀ b, t1.blk b → ¬ s3.blk b := fun b hb h2 => (nb1 b hb).elim (fun h => hS.d13 b h h2) (fun h => by have := hS.r3.lt h2; have := E13.size; omega)
     refine ⟨p, rfl, s2, B15.cell rfl, ?_⟩
     intro p4 w16 h16
     have E16 : Pure w15 w16 := Ext.new h16
     have B16 := B15.pure E16
     obtain ⟨t2, w17, hr17, R17, B17, np2, X17, nb2⟩ := append_in (P := Tryz.prog) (ty := 43) slT_int B16 (R2.pure E16) hS.n2 (a := p4) (r := [.int .i64 (1 + (Sp.sizeOf L a + Sp.sizeOf L b))]) (Box.of_new h16).row rfl rfl (by simp; omega) (by simp [maxLen]; omega)
     refine ⟨t2, w17, hr17, X17.kept (fun b hb h => hvis b ((hF b).2 (.inr (.inr (.inl h)))) hb), p, rfl, B17.canW (by simp), by rw [add_block]; exact hvis _ hpF, ?_⟩
     rintro w18 hw18
     have B18 : Box w18 p [t1.v, t2.v, s3.v] 45 := by rw [hw18]; exact B17.set 1 _
     have X18 : Ext (· = p.block) w17 w18 := by rw [hw18]; have := Ext.setCell (w := w17) (p.add 1) t2.v; rw [add_block] at this; exact this
     clear hw18
     have Q1 := ((R15.pure E16).ext X17 (fun b h1 h2 => d12' b h1 h2)).ext X18 (fun b hb e => np1 (e ▸ hb))
     have Q2 := R17.ext X18 (fun b hb e => np2 (e ▸ hb))
     have Q3 := ((R3.pure E16).ext X17 (fun b h3 h2 => hS.d23 b h2 h3)).ext X18 (fun b hb e => hS.n3 (e ▸ hb))
     have d12'' : ∀ b, t1.blk b → ¬ t2.blk b := fun b hb h2 => (nb2 b h2).elim (fun h => d12' b hb h) (fun h => by have := (R15.pure E16).lt hb; omega)
     have d23' : ∀ b, t2.blk b → ¬ s3.blk b := fun b hb h2 => (nb2 b hb).elim (fun h => hS.d23 b h h2) (fun h => by have := (R3.pure E16).lt h2; omega)
     refine ⟨p, rfl, s3, B18.cell rfl, ?_⟩
     intro p5 w19 h19
     have E19 : Pure w18 w19 := Ext.new h19
     have B19 := B18.pure E19
     obtain ⟨t3, w20, hr20, R20, B20, np3, X20, nb3⟩ := append_in (P := Tryz.prog) (ty := 43) slT_int B19 (Q3.pure E19) hS.n3 (a := p5) (r := [.int .i64 (z + 1)]) (Box.of_new h19).row rfl rfl (by simp; omega) (by simp [maxLen]; omega)
     refine ⟨t3, w20, hr20, X20.kept (fun b hb h => hvis b ((hF b).2 (.inr (.inr (.inr h)))) hb), p, rfl, B20.canW (by simp), by rw [add_block]; exact hvis _ hpF, ?_⟩
     rintro w21 hw21
     have B21 : Box w21 p [t1.v, t2.v, t3.v] 45 := by rw [hw21]; exact B20.set 2 _
     have X21 : Ext (· = p.block) w20 w21 := by rw [hw21]; have := Ext.setCell (w := w20) (p.add 2) t3.v; rw [add_block] at this; exact this
     clear hw21
     have d13'' : ∀ b, t1.blk b → ¬ t3.blk b := fun b hb h2 => (nb3 b h2).elim (fun h => d13' b hb h) (fun h => by have := (Q1.pure E19).lt hb; omega)
     have d23'' : ∀ b, t2.blk b → ¬ t3.blk b := fun b hb h2 => (nb3 b h2).elim (fun h => d23' b hb h) (fun h => by have := (Q2.pure E19).lt hb; omega)
     have Z1 := ((Q1.pure E19).ext X20 (fun b h1 h2 => d13' b h1 h2)).ext X21 (fun b hb e => np1 (e ▸ hb))
     have Z2 := ((Q2.pure E19).ext X20 (fun b h1 h2 => d23' b h1 h2)).ext X21 (fun b hb e => np2 (e ▸ hb))
     have Z3 := R20.ext X21 (fun b hb e => np3 (e ▸ hb))
     have hl1 : (t1.len : Int) = L.length + 1 := by rw [R14.len]; simp
     refine ⟨p, rfl, t1, B21.cell0, ?_⟩
     rw [hl1]
     refine hK _ _ _ ⟨by rw [hmk], fun b => b = p.block ∨ t1.blk b ∨ t2.blk b ∨ t3.blk b, ?_, ?_, ?_⟩
     ·rw [hmk]
      exact ⟨t1, t2, t3, ⟨B21, by simpa [rnode] using Z1, by simpa [rsize] using Z2, by simpa [rdepth] using Z3, np1, np2, np3, d12'', d13'', d23''⟩, fun _ => Iff.rfl⟩
     ·have a1 : Ext F w0 w14 := (E11'.trans E13).pure.trans' X14 (fun i _ h => (hF i).2 (.inr (.inl h)))
      have a2 : Ext F w0 w15 := a1.trans' X15 (fun i _ h => (hF i).2 (.inl h))
      have a3 : Ext F w0 w17 := (a2.thenPure E16).trans' X17 (fun i _ h => (hF i).2 (.inr (.inr (.inl h))))
      have a4 : Ext F w0 w18 := a3.trans' X18 (fun i _ h => (hF i).2 (.inl h))
      have a5 : Ext F w0 w20 := (a4.thenPure E19).trans' X20 (fun i _ h => (hF i).2 (.inr (.inr (.inr h))))
      exact a5.trans' X21 (fun i _ h => (hF i).2 (.inl h))
     ·have z13 : w0.heap.size ≤ w13.heap.size := (E11'.trans E13).size
      have z16 : w0.heap.size ≤ w16.heap.size := by have := X14.size; have := X15.size; have := E16.size; omega
      have z19 : w0.heap.size ≤ w19.heap.size := by have := X17.size; have := X18.size; have := E19.size; omega
      rintro b (rfl | hb | hb | hb)
      ·exact .inl hpF
      ·exact (nb1 b hb).imp (fun h => (hF b).2 (.inr (.inl h))) (fun h => by omega)
      ·exact (nb2 b hb).imp (fun h => (hF b).2 (.inr (.inr (.inl h)))) (fun h => by omega)
      ·exact (nb3 b hb).imp (fun h => (hF b).2 (.inr (.inr (.inr h)))) (fun h => by omega)
 have J2 : ∀ (x2 : Bool) (H : NP) (w : World), Hst w0 H w H w → Pure w0 w → x2 = (decide (1 ≤ (Sp.shapeOf k).kids) && !Sp.inP L a) → m_Q_j2 (some p) k f t u x a b x2 w0 H w K := by
  intro x2 H w hs E hx
  unfold m_Q_j2
  rw [hkd]
  refine ⟨fun h => J1 true H w hs E (by rw [← hx, h]; rfl), fun h => ⟨fun h2 => ?_, fun h2 => J1 false H w hs E ?_⟩⟩
  ·refine (c_ref05_In p b w (hP.pure E)).mono ?_
   rintro _ _ ⟨_, rfl, rfl, rfl⟩
   refine ⟨_, rfl, Kept.refl _, J1 _ H _ hs E ?_⟩
   have h2 : (Sp.shapeOf k).kids = 2 := by simpa using h2
   rw [← hx, h]; simp [h2]
  ·have h2 : (Sp.shapeOf k).kids ≠ 2 := by simpa using h2
   rw [← hx, h]; simp [h2]
 refine ⟨fun h => ?_, fun h => ?_⟩
 ·intro H1 w3 hs3
  refine (c_ref05_In p a w3 (hP.pure hs3.first)).mono ?_
  rintro _ _ ⟨_, rfl, rfl, rfl⟩
  refine ⟨_, rfl, Kept.refl _, J2 _ H1 _ hs3.here hs3.first ?_⟩
  have : 1 ≤ (Sp.shapeOf k).kids := by have := of_decide_eq_true h; omega
  simp [this]
 ·intro H1 w3 hs3
  refine J2 _ H1 _ hs3.here hs3.first ?_
  have : ¬ 1 ≤ (Sp.shapeOf k).kids := by have := of_decide_eq_false h; omega
  simp [this]
end Go.Proofs
end
section
open Go Go.SE
namespace Go.Proofs
attribute [local irreducible] Calls
def trow (t : Sp.Tree) (s : Sl) : List Value := [.int .i64 t.node.kind, .int .i64 t.node.frm, .int .i64 t.node.to, .int .u64 t.node.num, .string t.node.text, s.v]
inductive TreeAt (S : NP) (w : World) : Sl → Sp.Tree → Prop
 | mk (k f t u : Int) (x : ByteArray) (ks : List Sp.Tree) (s : Sl) (rs : Nat → Sl) (len : s.len = ks.length) (fit : ks.length ≤ 9223372036854775807)
   (row : ∀ i (h : i < ks.length), ∃ a, At s i 6 a ∧ S a.block ∧ Row w a (trow ks[i] (rs i))) (kid : ∀ i (h : i < ks.length), TreeAt S w (rs i) ks[i]) : TreeAt S w s (.mk k f t u x ks)
theorem TreeAt.ext {S F : NP} {w w' : World} {s : Sl} {t : Sp.Tree} (h : TreeAt S w s t) (hE : Ext F w w') (hd : ∀ b, S b → ¬ F b) : TreeAt S w' s t := by
 induction h with
 | mk k f t u x ks s rs len fit row kid ih =>
  exact .mk k f t u x ks s rs len fit (fun i h => let ⟨a, h1, h2, h3⟩ := row i h; ⟨a, h1, h2, hE.row h3 (hd _ h2)⟩) ih
theorem TreeAt.pure {S : NP} {w w' : World} {s : Sl} {t : Sp.Tree} (h : TreeAt S w s t) (hE : Pure w w') : TreeAt S w' s t := h.ext hE (fun _ _ h => h)
theorem TreeAt.mono {S S' : NP} {w : World} {s : Sl} {t : Sp.Tree} (h : TreeAt S w s t) (hd : ∀ b, S b → S' b) : TreeAt S' w s t := by
 induction h with
 | mk k f t u x ks s rs len fit row kid ih =>
  exact .mk k f t u x ks s rs len fit (fun i h => let ⟨a, h1, h2, h3⟩ := row i h; ⟨a, h1, hd _ h2, h3⟩) ih
theorem TreeAt.lt {S : NP} {w : World} {s : Sl} {t : Sp.Tree} (h : TreeAt S w s t) : TreeAt (fun b => S b ∧ b < w.heap.size) w s t := by
 induction h with
 | mk k f t u x ks s rs len fit row kid ih =>
  refine .mk k f t u x ks s rs len fit (fun i h => let ⟨a, h1, h2, h3⟩ := row i h; ⟨a, h1, ⟨h2, ?_⟩, h3⟩) ih
  have := h3 0 (by simp [trow])
  unfold World.cell? at this
  refine Classical.byContradiction fun hge => ?_
  have : w.heap[(a.add 0).block]? = none := by rw [add_block]; exact Array.getElem?_eq_none (by omega)
  simp_all [trow]
theorem c_nodeOf (k f t u : Int) (x : ByteArray) (s : Sl) (w : World) :
  Calls Tryz.prog 103 #[.agg #[.int .i64 k, .int .i64 f, .int .i64 t, .int .u64 u, .string x, s.v]] w
   (fun e w' => ∃ k' : Int, ∃ f' : Int, ∃ t' : Int, ∃ u' : Int, ∃ x' : ByteArray, ∃ a : Int, ∃ b : Int, e = .returned (.agg #[.int .i64 k', .int .i64 f', .int .i64 t', .int .u64 u', .string x', .int .i64 a, .int .i64 b]) ∧ ((⟨k', f', t', u', x', a, b⟩ : Sp.Node) = ⟨k, f, t, u, x, 0, 0⟩ ∧ Pure w w')) := by
 refine w_W2 _ _ _ _ _ _ w (fun k' f' t' u' x' a b w' => (⟨k', f', t', u', x', a, b⟩ : Sp.Node) = ⟨k, f, t, u, x, 0, 0⟩ ∧ Pure w w') ?_
 unfold m_W2
 intro p1 w1 h1 p2 w2 h2
 have E1 : Pure w w1 := Ext.new h1
 have b1 := (Box.of_new h1).pure (Ext.new h2)
 refine ⟨_, b1.cell0, _, b1.cell rfl, _, b1.cell rfl, _, b1.cell rfl, _, b1.cell rfl, ?_⟩
 exact bx 7 (Box.of_new h2) rfl rfl (fun w' b E => ⟨_, _, _, _, _, _, _, b.row, rfl, (E1.trans (Ext.new h2)).own (New.own E1 h2) E⟩)
theorem looks_mono (t : Sp.Tree) : ∀ i n : Int, 0 ≤ n → 0 ≤ (Sp.looks i n t).2 := by
 induction t using Sp.Tree.ind with
 | h k f t u x ks ih =>
  have : ∀ (ks : List Sp.Tree), (∀ i (hi : i < ks.length), ∀ j n : Int, 0 ≤ n → 0 ≤ (Sp.looks j n ks[i]).2) → ∀ i e n : Int, 0 ≤ n → 0 ≤ (Sp.looksAll i e n ks).2 := by
   intro ks
   induction ks with
   | nil => intro _ i e n h; simpa [Sp.looksAll] using h
   | cons t ts iht =>
    intro hh i e n h
    unfold Sp.looksAll
    split
    ·exact iht (fun i hi => hh (i + 1) (by simpa using hi)) _ _ _ (hh 0 (by simp) i n h)
    ·exact h
  intro i n h
  unfold Sp.looks
  split
  ·exact h
  ·split
   ·exact h
   ·exact this ks ih _ _ _ (by omega)
theorem looksAll_drop {ks : List Sp.Tree} {j : Nat} (hj : j < ks.length) (i n : Int) : Sp.looksAll i 0 n (ks.drop j) = Sp.looksAll i (Sp.looks i n ks[j]).1 (Sp.looks i n ks[j]).2 (ks.drop (j + 1)) := by
 rw [List.drop_eq_getElem_cons hj, Sp.looksAll, if_pos rfl]
theorem looksAll_bad {ks : List Sp.Tree} {e : Int} (h : e ≠ 0) (i n : Int) : Sp.looksAll i e n ks = (e, n) := by
 cases ks <;> simp [Sp.looksAll, h]
theorem c_looks {S : NP} (q : Addr) (hq : ¬ S q.block) (T : TypeId) (t : Sp.Tree) : ∀ (s : Sl) (inside seen : Int) (w : World), 0 ≤ inside → 0 ≤ seen → TreeAt S w s t → Box w q [.int .i64 seen] T →
  Calls Tryz.prog 68 #[.agg (trow t s).toArray, .int .i64 inside, .pointer (some q)] w
   (fun e w' => ∃ r : Int, e = .returned (.int .i64 r) ∧ (r = (Sp.looks inside seen t).1 ∧ Box w' q [.int .i64 (Sp.looks inside seen t).2] T ∧ Ext (· = q.block) w w')) := by
 induction t using Sp.Tree.ind with
 | h k f t u x ks ih =>
 intro s inside seen w hi0 hn0 hT hB
 suffices key : ∀ K : Int → WP, (∀ r w', (r = (Sp.looks inside seen (.mk k f t u x ks)).1 ∧ Box w' q [.int .i64 (Sp.looks inside seen (.mk k f t u x ks)).2] T ∧ Ext (· = q.block) w w') → K r w') → m_M k f t u x s inside (some q) w K from
  w_M _ _ _ _ _ _ _ _ w _ (key _ (fun _ _ h => h))
 intro K hK
 unfold m_M
 intro p1 w1 h1
 have b1 := Box.of_new h1
 have E1 : Pure w w1 := Ext.new h1
 have n1 : q.block ≠ p1.block := New.ne h1 hB.blk
 have hB1 := hB.pure E1
 have hT1 := hT.pure E1
 refine ⟨q, rfl, seen, hB1.cell0, fun h => ?_, fun h => ⟨fun h' => ?_, fun h' => ?_⟩⟩
 ·have h := of_decide_eq_true h
  have : Sp.looks inside seen (.mk k f t u x ks) = (52, seen) := by rw [Sp.looks, if_pos (by omega)]
  rw [this] at hK; exact hK _ _ ⟨rfl, hB1, E1.pure⟩
 ·have h := of_decide_eq_false h; have h' := of_decide_eq_true h'
  have : Sp.looks inside seen (.mk k f t u x ks) = (52, seen) := by rw [Sp.looks, if_neg (by omega), if_pos (by omega)]
  rw [this] at hK; exact hK _ _ ⟨rfl, hB1, E1.pure⟩
 have h := of_decide_eq_false h; have h' := of_decide_eq_false h'
 have hsp : Sp.looks inside seen (.mk k f t u x ks) = Sp.looksAll (inside + 1) (Sp.ownErr ⟨k, f, t, u, x, 0, 0⟩ ks.length) (seen + 1) ks := by rw [Sp.looks, if_neg (by omega), if_neg (by omega)]
 rw [hsp] at hK
 unfold m_M_j1
 refine ⟨q, rfl, seen, hB1.cell0, q, rfl, hB1.canW0 (by simp), ?_⟩
 rw [i64 (n := seen + 1) (by omega) (by omega)]
 intro w2 hw2
 have hB2 : Box w2 q [.int .i64 (seen + 1)] T := by rw [hw2]; exact hB1.set0
 have E12 : Ext (· = q.block) w1 w2 := by rw [hw2]; exact Ext.setCell q _
 clear hw2
 have b2 := b1.ext E12 (fun e => n1 e.symm)
 have hT2 := hT1.ext E12 (fun b hb e => hq (e ▸ hb))
 have E2 : Ext (· = q.block) w w2 := E1.pure.trans E12
 refine ⟨_, _, _, _, _, _, b2.row, ?_⟩
 refine (c_nodeOf _ _ _ _ _ _ w2).mono ?_
 rintro _ w3 ⟨k', f', t', u', x', a', b', rfl, hn, E23⟩
 cases hn
 refine ⟨_, _, _, _, _, _, _, rfl, ?_⟩
 intro p2 w4 h4
 have n2 : p1.block ≠ p2.block := New.ne h4 (b2.pure E23).blk
 have E24 : Pure w2 w4 := E23.trans (Ext.new h4)
 have o2 := New.own E23 h4
 refine bx 7 (Box.of_new h4) rfl rfl (fun w5 c2 E45 => ?_)
 have E25 : Pure w2 w5 := E24.own o2 E45
 refine ⟨_, _, _, _, _, _, _, c2.row, ?_⟩
 refine (c_plain _ _ _ _ _ _ _ w5).mono ?_
 rintro _ w6 ⟨s1, s2, s3, s4, s5, pe, rfl, ⟨hs, hpe⟩, E56⟩
 refine ⟨_, _, _, _, _, _, rfl, ?_⟩
 intro p3 w7 h7
 have n3 : p2.block ≠ p3.block := New.ne h7 (c2.pure E56).blk
 have E27 : Pure w2 w7 := (E25.trans E56).trans (Ext.new h7)
 have o3 := New.own (E25.trans E56) h7
 refine bx 5 (Box.of_new h7) rfl rfl (fun w8 c3 E78 => ?_)
 have E28 : Pure w2 w8 := E27.own o3 E78
 have d2 := ((c2.pure E56).pure (Ext.new h7)).ext E78 n3
 have d1 := b2.pure E28
 have hB8 := hB2.pure E28
 have hT8 := hT2.pure E28
 have E8 : Ext (· = q.block) w w8 := E2.thenPure E28
 clear E78 E27 E56 E25 E45 E24 E23 E12 c2 b2 b1 hT2 hT1 hB1 h1 h4 h7
 have hlen : s.len = ks.length := by cases hT; assumption
 have hfit : ks.length ≤ 9223372036854775807 := by cases hT; assumption
 have hsh : Sp.shapeOf k = ⟨s1, s2, s3, s4, s5⟩ := hs.symm
 have J3 : ∀ e w', Pure w8 w' → e = Sp.ownErr ⟨k, f, t, u, x, 0, 0⟩ ks.length → m_M_j3 inside (some q) p1 e w' K := by
  intro e w' E hown
  rw [← hown] at hK
  unfold m_M_j3
  refine ⟨fun e i w' => ∃ j : Nat, i = j ∧ j ≤ ks.length ∧ ∃ n : Int, 0 ≤ n ∧ Ext (· = q.block) w8 w' ∧ Box w' q [.int .i64 n] T ∧ Sp.looksAll (inside + 1) e n (ks.drop j) = Sp.looksAll (inside + 1) (Sp.ownErr ⟨k, f, t, u, x, 0, 0⟩ ks.length) (seen + 1) ks, fun _ i _ => ((ks.length : Int) - i).toNat, ⟨0, rfl, Nat.zero_le _, seen + 1, by omega, E.pure, hB8.pure E, by rw [hown]; rfl⟩, ?_⟩
  rintro e1 _ wl ⟨j, rfl, hj, n, hn, El, hBl, heq⟩
  unfold m_M_l4
  have dl := d1.ext El (fun e => n1 e.symm)
  have hTl := hT8.ext El (fun b hb e => hq (e ▸ hb))
  rw [← hown] at heq
  have fin : ∀ n', Sp.looksAll (inside + 1) e ((seen : Int) + 1) ks = (e1, n') → n' = n → K e1 wl := by
   rintro n' h rfl
   refine hK _ _ ⟨by rw [h], by rw [h]; exact hBl, E8.trans El⟩
  refine ⟨s, dl.cell rfl, fun hlt => ⟨fun he => ?_, fun he => ?_⟩, fun hlt => ?_⟩
  ·have hlt : j < ks.length := by have h := of_decide_eq_true hlt; omega
   have he : e1 = 0 := by simpa using he
   subst he
   cases hTl with
   | mk _ _ _ _ _ _ _ rs len fit row kid =>
   obtain ⟨a, hat, ha, hr⟩ := row j hlt
   refine ⟨s, dl.cell rfl, a, hat, _, _, _, _, _, rs j, hr, ?_⟩
   rw [i64 (n := inside + 1) (by omega) (by omega)]
   refine (ih j hlt (rs j) (inside + 1) n wl (by omega) hn (kid j hlt) hBl).mono ?_
   rintro _ w9 ⟨r, rfl, rfl, hB9, E9⟩
   rw [looksAll_drop hlt] at heq
   refine ⟨_, rfl, ⟨j + 1, ?_, hlt, _, looks_mono _ _ _ hn, El.trans E9, hB9, by rw [← hown]; exact heq⟩, ?_⟩
   ·rw [i64 (by omega) (by omega)]; omega
   ·show ((ks.length : Int) - IntKind.i64.wrap ((j : Int) + 1)).toNat < ((ks.length : Int) - (j : Int)).toNat
    rw [i64 (by omega) (by omega)]; omega
  ·have he : e1 ≠ 0 := by simpa using he
   rw [looksAll_bad he] at heq
   exact fin _ heq.symm rfl
  ·have hge : j = ks.length := by have h := of_decide_eq_false hlt; omega
   rw [hge, List.drop_length, Sp.looksAll] at heq
   exact fin _ heq.symm rfl
 have J2 : ∀ e1, e1 = (if pe = 0 then if (ks.length : Int) ≠ s5 then 53 else 0 else pe) → m_M_j2 inside (some q) p1 p2 p3 e1 w8 K := by
  intro e1 he1
  have hown : Sp.ownErr ⟨k, f, t, u, x, 0, 0⟩ ks.length = if e1 = 0 then Sp.fieldsErr ⟨s1, s2, s3, s4, s5⟩ ⟨k, f, t, u, x, 0, 0⟩ else e1 := by
   unfold Sp.ownErr
   simp only [hsh, ← hpe, he1]
  unfold m_M_j2
  refine ⟨fun h => ⟨_, _, _, _, _, c3.row, _, _, _, _, _, _, _, d2.row, ?_⟩, fun h => J3 _ _ (Ext.refl _) ?_⟩
  ·have h : e1 = 0 := by simpa using h
   refine (c_fields _ _ _ _ _ _ _ _ _ _ _ _ _).mono ?_
   rintro _ w9 ⟨_, rfl, rfl, E9⟩
   exact ⟨_, rfl, J3 _ _ E9 (by rw [hown, if_pos h])⟩
  ·have h : e1 ≠ 0 := by simpa using h
   rw [hown, if_neg h]
 refine ⟨fun h => ⟨s, d1.cell rfl, s5, c3.cell rfl, fun h5 => J2 _ ?_, fun h5 => J2 _ ?_⟩, fun h => J2 _ ?_⟩
 ·have h : pe = 0 := by simpa using h
  have h5 : (s.len : Int) ≠ s5 := by simpa using h5
  rw [if_pos h, if_pos (by omega)]
 ·have h : pe = 0 := by simpa using h
  have h5 : (s.len : Int) = s5 := by simpa using h5
  rw [if_pos h, if_neg (by omega), h]
 ·have h : pe ≠ 0 := by simpa using h
  rw [if_neg h]
end Go.Proofs
end
section
open Go Go.SE
namespace Go.Proofs
attribute [local irreducible] Calls
theorem c_New (w : World) : Calls Tryz.prog 27 #[] w (fun e w' => ∃ r : Option Addr, e = .returned (.pointer r) ∧ ∃ p, r = some p ∧ Pure w w' ∧ ∃ F, PoolAt w' p [] F ∧ ∀ b, F b → w.heap.size ≤ b) := by
 refine w_N2 w (fun r w' => ∃ p, r = some p ∧ Pure w w' ∧ ∃ F, PoolAt w' p [] F ∧ ∀ b, F b → w.heap.size ≤ b) ?_
 unfold m_N2
 intro p1 w1 h1 p2 w2 h2
 have E1 : Pure w w1 := Ext.new h1
 have m2 : CMap w2 p1.block [] := (CMap.of_new h1).ext (Ext.new h2 : Pure w1 w2) id
 have n12 : p1.block ≠ p2.block := New.ne h2 h1.block_new
 refine ⟨p2, rfl, E1.trans (Ext.new h2), fun b => b = p2.block ∨ Sl.nil.blk b ∨ b = p1.block, ⟨Sl.nil, p1.block, ⟨Box.of_new h2, by simpa using Rws.nil _ _ _, by simpa [pmap] using m2, n12, ?_, ?_⟩, fun _ => Iff.rfl⟩, ?_⟩
 ·rintro ⟨a, h, _⟩; cases h
 ·rintro ⟨a, h, _⟩; cases h
 ·rintro b (rfl | ⟨a, h, _⟩ | rfl)
  ·exact New.own E1 h2
  ·cases h
  ·exact New.own (Ext.refl w) h1
theorem pmap_take (L : Sp.Pool) (n : Nat) : pmap (L.take n) = (pmap L).take n := by
 apply List.ext_getElem?; intro i
 simp only [pmap, List.getElem?_map, List.getElem?_zipIdx, List.getElem?_take]
 split <;> simp
theorem pmap_fst (L : Sp.Pool) : (pmap L).map (·.1) = (L.map (·.node)).map nkey := by
 apply List.ext_getElem?; intro i
 simp only [pmap, List.getElem?_map, List.getElem?_zipIdx]
 cases L[i]? <;> simp
theorem c_cut (p : Addr) (n : Nat) (w : World) {L : Sp.Pool} {F : NP} (hP : PoolAt w p L F) (hok : Sp.Ok L) (hn : n ≤ L.length) :
  Calls Tryz.prog 70 #[.pointer (some p), .int .i64 n] w (fun e w' => e = .returned (.tuple #[]) ∧ PoolAt w' p (L.take n) F ∧ Ext F w w') := by
 suffices key : ∀ K : WP, (∀ w', PoolAt w' p (L.take n) F ∧ Ext F w w' → K w') → m_E1 (some p) n w K from
  w_E1 _ _ w _ (key _ (fun _ h => h))
 intro K hK
 unfold m_E1
 obtain ⟨s, m, hS, hF⟩ := hP
 have hfew := hok.few
 have hcap : s.len ≤ s.cap := by
  have := hS.rows.len
  rcases hS.rows.own with ⟨rfl, _⟩ | ⟨g, cur, _, _, hc, _⟩
  ·simp [Sl.nil]
  ·omega
 obtain ⟨s1, hr1, hl1⟩ := hS.rows.lst.lo (P := Tryz.prog) slT_entry hcap (k := .i64) (n := n) (by omega) (by simpa using hn)
 have hlen1 : s1.len = L.length - n := by rw [hl1.len]; simp
 refine ⟨p, rfl, s, hS.box.cell0, s1, hr1, ?_⟩
 refine ⟨fun x w' => ∃ j : Nat, x = j ∧ j ≤ L.length - n ∧ Ext (· = m) w w' ∧ CMap w' m ((pmap L).take n ++ (pmap L).drop (n + j)), fun x _ => ((L.length : Int) - x).toNat, ⟨0, rfl, Nat.zero_le _, Ext.refl w, by simpa using hS.map⟩, ?_⟩
 rintro _ wl ⟨j, rfl, hj, El, hml⟩
 have hboxl := hS.box.ext El hS.n1.symm
 have hrowsl := hS.rows.ext El (fun b hb e => hS.n3 (e ▸ hb))
 unfold m_E1_l1
 refine ⟨fun h => ?_, fun h => ?_⟩
 ·have hlt : n + j < L.length := by have h := of_decide_eq_true h; omega
  have hll := hl1.ext El (fun b hb e => hS.n3 (e ▸ hb))
  obtain ⟨a, hat, _, hrow⟩ := hll.at_ j (by simp; omega)
  generalize he : L[n + j] = e at *
  have hrow' : Row wl a (erow e) := by
   have : ((L.map erow).drop ((n : Int).toNat))[j]'(by simp; omega) = erow e := by simp [he]
   rw [this] at hrow; exact hrow
  obtain ⟨nd, sz, dp⟩ := e
  obtain ⟨k, f, t, u, x, a1, b1⟩ := nd
  refine ⟨a, hat, _, _, _, _, _, _, _, _, _, hrow', ?_⟩
  intro p2 w1 h1
  have E1 : Pure wl w1 := Ext.new h1
  have o1 := New.own (Ext.refl wl) h1
  refine bx 9 (Box.of_new h1) rfl rfl (fun w2 b2 E => ?_)
  have E2 : Pure wl w2 := E1.own o1 E
  refine ⟨fun w' => w'.cell? (p.add 1) = some (.map (some m)) ∧ Row w' p2 (nrow ⟨k, f, t, u, x, a1, b1⟩), ⟨(hboxl.pure (E2.thenPure (Ext.drew w2))).cell (i := 1) rfl, ?_⟩, ?_⟩
  ·have : Row w2 p2 (nrow ⟨k, f, t, u, x, a1, b1⟩) := fun i hi => by
    have := b2.row i (by simp [nrow] at hi ⊢; omega)
    rw [this]
    have h7 : i < 7 := by simpa [nrow] using hi
    have : i = 0 ∨ i = 1 ∨ i = 2 ∨ i = 3 ∨ i = 4 ∨ i = 5 ∨ i = 6 := by omega
    rcases this with rfl | rfl | rfl | rfl | rfl | rfl | rfl <;> rfl
   exact Ext.row (F := None) (Ext.drew w2) this id
  intro w3 hw3
  have E3 : Pure wl w3 := by rw [hw3]; exact E2.thenPure (Ext.drew w2)
  clear hw3
  refine ⟨p, rfl, some m, fun w' h => h.1, k, f, t, u, x, a1, b1, fun w' h => h.2, ?_⟩
  have hm3 := hml.ext E3 id
  have hpl : (pmap L).length = L.length := by simp [pmap]
  have hget : (pmap L)[n + j]? = some (nkey ⟨k, f, t, u, x, a1, b1⟩, .int .i64 (n + j + 1 : Nat)) := by
   simp only [pmap, List.getElem?_map, List.getElem?_zipIdx, List.getElem?_eq_getElem hlt, he]; simp
  have hidx : ((pmap L).take n ++ (pmap L).drop (n + j))[n]? = some (nkey ⟨k, f, t, u, x, a1, b1⟩, .int .i64 (n + j + 1 : Nat)) := by
   have e0 : n + j + (n - ((pmap L).take n).length) = n + j := by rw [List.length_take]; omega
   rw [List.getElem?_append_right (by rw [List.length_take]; omega), List.getElem?_drop, e0, hget]
  have hnd : ((pmap L).map (·.1)).Nodup := by
   rw [pmap_fst, List.nodup_iff_pairwise_ne, List.pairwise_map]
   exact hok.nodup.imp (fun h e => h (nkey_inj.1 e))
  have hsub : List.Sublist ((pmap L).take n ++ (pmap L).drop (n + j)) (pmap L) := by
   conv => rhs; rw [← List.take_append_drop n (pmap L)]
   refine (List.Sublist.refl _).append ?_
   have e0 : (pmap L).drop (n + j) = ((pmap L).drop n).drop j := by rw [List.drop_drop]
   rw [e0]; exact List.drop_sublist _ _
  have hnd2 : (((pmap L).take n ++ (pmap L).drop (n + j)).map (·.1)).Nodup := hnd.sublist (hsub.map _)
  obtain ⟨w4, hr4, hm4, E4⟩ := hm3.delete (P := Tryz.prog) (Q := 86) (z := 0) Tryz.underlying92 keyOK_node (fun q hq => pmap_keys q (hsub.subset hq)) ⟨_, rfl⟩ hidx (fun i u hi => by
   obtain ⟨hi1, hi2⟩ := List.getElem?_eq_some_iff.1 hi
   obtain ⟨hn1, hn2⟩ := List.getElem?_eq_some_iff.1 hidx
   refine Classical.byContradiction fun hne => ?_
   have hne := List.pairwise_iff_getElem.1 hnd2
   rcases Nat.lt_or_gt_of_ne ‹_› with hlt | hlt
   ·exact hne i n (by simpa using hi1) (by simpa using hn1) hlt (by rw [List.getElem_map, List.getElem_map, hi2, hn2])
   ·exact hne n i (by simpa using hn1) (by simpa using hi1) hlt (by rw [List.getElem_map, List.getElem_map, hi2, hn2]))
  refine ⟨w4, hr4, ⟨j + 1, ?_, by omega, (El.trans E3.pure).trans E4, ?_⟩, ?_⟩
  ·rw [i64 (by omega) (by omega)]; omega
  ·rw [List.eraseIdx_append_of_length_le (by rw [List.length_take]; omega)] at hm4
   have : n - ((pmap L).take n).length = 0 := by rw [List.length_take]; omega
   rw [this] at hm4
   have hd : ((pmap L).drop (n + j)).eraseIdx 0 = (pmap L).drop (n + (j + 1)) := by
    rw [List.drop_eq_getElem_cons (by omega)]; simp; rfl
   rw [hd] at hm4; exact hm4
  ·show ((L.length : Int) - IntKind.i64.wrap ((j : Int) + 1)).toNat < ((L.length : Int) - (j : Int)).toNat
   rw [i64 (by omega) (by omega)]; omega
 ·have hge : n + j = L.length := by have h := of_decide_eq_false h; omega
  have hpl : (pmap L).length = L.length := by simp [pmap]
  rw [hge, ← hpl, List.drop_length, List.append_nil] at hml
  obtain ⟨s2, hr2, hrows2, hb2⟩ := hrowsl.hi (P := Tryz.prog) slT_entry (k := .i64) (n := n) (by omega) (by simpa using hn)
  refine ⟨p, rfl, s, hboxl.cell0, s2, hr2, p, rfl, hboxl.canW0 (by simp), ?_⟩
  rintro w5 hw5
  have hbox5 : Box w5 p [s2.v, .map (some m)] 94 := by rw [hw5]; exact hboxl.set0
  have E5 : Ext (· = p.block) wl w5 := by rw [hw5]; exact Ext.setCell p _
  clear hw5
  refine hK _ ⟨⟨s2, m, ⟨hbox5, ?_, ?_, hS.n1, fun h => hS.n2 ((hb2 _).1 h), fun h => hS.n3 ((hb2 _).1 h)⟩, fun b => by rw [hF b, hb2 b]⟩, ?_⟩
  ·have := hrows2.ext E5 (fun b hb e => hS.n2 (by rw [← e]; exact (hb2 _).1 hb))
   simpa using this
  ·rw [pmap_take]; exact hml.ext E5 hS.n1
  ·exact (El.mono (fun i _ h => (hF i).2 (.inr (.inr h)))).trans' E5 (fun i _ h => (hF i).2 (.inl h))
end Go.Proofs
end
section
open Go Go.SE
namespace Go.Proofs
attribute [local irreducible] Calls
theorem growAll_bad {n : Sp.Node} {i : Nat} {L : Sp.Pool} {t : Sp.Tree} {ts : List Sp.Tree} (h : (Sp.grow L t).2.1 ≠ 0) : Sp.growAll n i L (t :: ts) = (0, (Sp.grow L t).2.1, (Sp.grow L t).2.2) := by rw [Sp.growAll, if_pos h]
theorem growAll_good {n : Sp.Node} {i : Nat} {L : Sp.Pool} {t : Sp.Tree} {ts : List Sp.Tree} (h : (Sp.grow L t).2.1 = 0) : Sp.growAll n i L (t :: ts) = Sp.growAll (if i = 0 then { n with a := (Sp.grow L t).1 } else { n with b := (Sp.grow L t).1 }) (i + 1) (Sp.grow L t).2.2 ts := by rw [Sp.growAll, if_neg (by simp [h])]
def Sp.Tree.two (t : Sp.Tree) : Prop := Sp.Tree.rec (motive_1 := fun _ => Prop) (motive_2 := fun _ => Prop) (fun _ _ _ _ _ ks h => ks.length ≤ 2 ∧ h) True (fun _ _ h1 h2 => h1 ∧ h2) t
def twoAll : List Sp.Tree → Prop
 | [] => True
 | t :: ts => Sp.Tree.two t ∧ twoAll ts
theorem two_mk {k f t u : Int} {x : ByteArray} {ks : List Sp.Tree} : Sp.Tree.two (.mk k f t u x ks) ↔ ks.length ≤ 2 ∧ twoAll ks := by
 have : ∀ ks : List Sp.Tree, (Sp.Tree.rec_1 (motive_1 := fun _ => Prop) (motive_2 := fun _ => Prop) (fun _ _ _ _ _ ks h => ks.length ≤ 2 ∧ h) True (fun _ _ h1 h2 => h1 ∧ h2) ks : Prop) = twoAll ks := by
  intro ks
  induction ks with
  | nil => rfl
  | cons t ts ih => show (Sp.Tree.two t ∧ _) = (Sp.Tree.two t ∧ _); rw [ih]
 show (ks.length ≤ 2 ∧ _) ↔ _
 rw [this]
theorem twoAll_get {ks : List Sp.Tree} (h : twoAll ks) {i : Nat} (hi : i < ks.length) : Sp.Tree.two ks[i] := by
 induction ks generalizing i with
 | nil => simp at hi
 | cons t ts ih =>
  cases i with
  | zero => exact h.1
  | succ i => exact ih h.2 (by simpa using hi)
theorem c_grow {S : NP} (p : Addr) (t : Sp.Tree) : ∀ (s : Sl) (w : World) (L : Sp.Pool) (F : NP), Sp.Tree.two t → TreeAt S w s t → PoolAt w p L F → Sp.Ok L → (∀ b, F b → ¬ S b) → (∀ b, S b → b < w.heap.size) →
  Calls Tryz.prog 69 #[.pointer (some p), .agg (trow t s).toArray] w
   (fun e w' => ∃ r1 : Int, ∃ r2 : Int, e = .returned (.tuple #[.int .i64 r1, .int .i64 r2]) ∧ ((r1, r2) = ((Sp.grow L t).1, (Sp.grow L t).2.1) ∧ ∃ F', PoolAt w' p (Sp.grow L t).2.2 F' ∧ Ext F w w' ∧ ∀ b, F' b → F b ∨ w.heap.size ≤ b)) := by
 induction t using Sp.Tree.ind with
 | h k f t u x ks ih =>
 intro s w L F h2 hT hP hok hFS hSw
 suffices key : ∀ K : Int → Int → WP, (∀ r1 r2 w', ((r1, r2) = ((Sp.grow L (.mk k f t u x ks)).1, (Sp.grow L (.mk k f t u x ks)).2.1) ∧ ∃ F', PoolAt w' p (Sp.grow L (.mk k f t u x ks)).2.2 F' ∧ Ext F w w' ∧ ∀ b, F' b → F b ∨ w.heap.size ≤ b) → K r1 r2 w') → m_D1 (some p) k f t u x s w K from
  w_D1 _ _ _ _ _ _ _ w _ (key _ (fun _ _ _ h => h))
 intro K hK
 obtain ⟨hk2, hall⟩ := two_mk.1 h2
 unfold m_D1
 intro p2 w1 h1
 have b1 := Box.of_new h1
 have E1 : Pure w w1 := Ext.new h1
 refine ⟨_, _, _, _, _, _, b1.row, ?_⟩
 refine (c_nodeOf _ _ _ _ _ _ w1).mono ?_
 rintro _ w2 ⟨k', f', t', u', x', a', b', rfl, hn, E12⟩
 cases hn
 refine ⟨_, _, _, _, _, _, _, rfl, ?_⟩
 intro p3 w3 h3
 have E3 : Pure w w3 := (E1.trans E12).trans (Ext.new h3)
 have o3 := New.own (E1.trans E12) h3
 have n23 : p2.block ≠ p3.block := New.ne h3 (b1.pure E12).blk
 refine bx 7 (Box.of_new h3) rfl rfl (fun w4 b3 E34 => ?_)
 have E4 : Pure w w4 := E3.own o3 E34
 have b2 := ((b1.pure E12).pure (Ext.new h3)).ext E34 n23
 intro p4 w5 h5
 have E5 : Pure w w5 := E4.trans (Ext.new h5)
 have o4 := New.own E4 h5
 have n34 : p3.block ≠ p4.block := New.ne h5 b3.blk
 have c3 := b3.pure (Ext.new h5 : Pure w4 w5)
 have c4 := Box.of_new h5
 have c2 := b2.pure (Ext.new h5 : Pure w4 w5)
 refine ⟨s, c2.cell rfl, ?_⟩
 have hsp : Sp.grow L (.mk k f t u x ks) = Sp.growAll ⟨k, f, t, u, x, 0, 0⟩ 0 L ks := by rw [Sp.grow]
 rw [hsp] at hK
 have hlen : s.len = ks.length := by cases hT; assumption
 refine ⟨fun i w' => ∃ j : Nat, i = j ∧ j ≤ ks.length ∧ ∃ (nd : Sp.Node) (L' : Sp.Pool) (F' : NP), Sp.growAll ⟨k, f, t, u, x, 0, 0⟩ 0 L ks = Sp.growAll nd j L' (ks.drop j) ∧ Sp.Ok L' ∧ PoolAt w' p L' F' ∧ (∀ b, F' b → F b ∨ w.heap.size ≤ b) ∧ ¬ F' p3.block ∧ ¬ F' p4.block ∧ Ext F w w' ∧ Box w' p3 (nrow nd) 86 ∧ Box w' p4 [.pointer (some (p3.add 5)), .pointer (some (p3.add 6))] 179, fun i _ => ((ks.length : Int) - i).toNat,
  ⟨0, rfl, Nat.zero_le _, ⟨k, f, t, u, x, 0, 0⟩, L, F, by simp, hok, hP.pure E5, fun b h => .inl h, fun h => by have := hP.lt h; omega, fun h => by have := hP.lt h; omega, E5.pure, c3, c4⟩, ?_⟩
 rintro _ wl ⟨j, rfl, hj, nd, L', F', heq, hok', hPl, hF', hn3, hn4, El, d3, d4⟩
 unfold m_D1_l1
 refine ⟨fun h => ?_, fun h => ?_⟩
 ·have hlt : j < ks.length := by have h := of_decide_eq_true h; omega
  have hTl : TreeAt S wl s (.mk k f t u x ks) := hT.ext El (fun b hs hf => hFS b hf hs)
  have hkid : ∀ i (h : i < ks.length), ∃ a r, At s i 6 a ∧ Row wl a (trow ks[i] r) ∧ TreeAt S wl r ks[i] := by
   cases hTl with
   | mk _ _ _ _ _ _ _ rs len fit row kid => exact fun i h => let ⟨a, h1, _, h3⟩ := row i h; ⟨a, rs i, h1, h3, kid i h⟩
  obtain ⟨a, r, hat, hrow, hTk⟩ := hkid j hlt
  refine ⟨a, hat, _, _, _, _, _, r, hrow, ?_⟩
  intro p5 w6 h6
  have o5 := New.own (Ext.refl wl) h6
  refine bx 6 (Box.of_new h6) rfl rfl (fun w7 b5 E67 => ?_)
  have E7 : Pure wl w7 := Ext.own (Ext.new h6) o5 E67
  refine ⟨_, _, _, _, _, r, b5.row, ?_⟩
  have hsz : w.heap.size ≤ wl.heap.size := El.size
  refine (ih j hlt r w7 L' F' (twoAll_get hall hlt) (hTk.pure E7) (hPl.pure E7) hok' (fun b hb hs => (hF' b hb).elim (fun h => hFS b h hs) (fun h => by have := hSw b hs; omega)) (fun b hs => by have := hSw b hs; have := E7.size; omega)).mono ?_
  rintro _ w8 ⟨r1, r2, rfl, hr, F8, hP8, E8, hF8⟩
  have e1 : r1 = (Sp.grow L' ks[j]).1 := congrArg Prod.fst hr
  have e2 : r2 = (Sp.grow L' ks[j]).2.1 := congrArg Prod.snd hr
  rw [List.drop_eq_getElem_cons hlt] at heq
  have hF8' : ∀ b, F8 b → F b ∨ w.heap.size ≤ b := fun b hb => (hF8 b hb).elim (hF' b) (fun h => by right; have := E7.size; omega)
  have Ew8 : Ext F w w8 := (El.thenPure E7).trans' E8 (fun i hi h => (hF' i h).elim id (fun h => by omega))
  refine ⟨_, _, rfl, fun h => ?_, fun h => ?_⟩
  ·have h : (Sp.grow L' ks[j]).2.1 ≠ 0 := by rw [← e2]; simpa using h
   rw [growAll_bad h] at heq
   refine hK _ _ _ ?_
   rw [heq]; exact ⟨by rw [e2], F8, hP8, Ew8, hF8'⟩
  ·have h : (Sp.grow L' ks[j]).2.1 = 0 := by rw [← e2]; simpa using h
   rw [growAll_good h] at heq
   have q3 := (d3.pure E7).ext E8 hn3
   have q4 := (d4.pure E7).ext E8 hn4
   have hs7 : wl.heap.size ≤ w7.heap.size := E7.size
   have n38 : ¬ F8 p3.block := fun h => (hF8 _ h).elim hn3 (fun h => by have := (d3.pure E7).lt; omega)
   have n48 : ¬ F8 p4.block := fun h => (hF8 _ h).elim hn4 (fun h => by have := (d4.pure E7).lt; omega)
   have hok8 := (Sp.grow_facts ks[j] L' hok').1
   have fin : ∀ (w9 : World) (nd' : Sp.Node), nd' = (if j = 0 then { nd with a := (Sp.grow L' ks[j]).1 } else { nd with b := (Sp.grow L' ks[j]).1 }) → Box w9 p3 (nrow nd') 86 → Ext (· = p3.block) w8 w9 →
     (∃ j' : Nat, IntKind.i64.wrap ((j : Int) + 1) = j' ∧ j' ≤ ks.length ∧ ∃ (nd : Sp.Node) (L' : Sp.Pool) (F' : NP), Sp.growAll ⟨k, f, t, u, x, 0, 0⟩ 0 L ks = Sp.growAll nd j' L' (ks.drop j') ∧ Sp.Ok L' ∧ PoolAt w9 p L' F' ∧ (∀ b, F' b → F b ∨ w.heap.size ≤ b) ∧ ¬ F' p3.block ∧ ¬ F' p4.block ∧ Ext F w w9 ∧ Box w9 p3 (nrow nd) 86 ∧ Box w9 p4 [.pointer (some (p3.add 5)), .pointer (some (p3.add 6))] 179) ∧ ((ks.length : Int) - IntKind.i64.wrap ((j : Int) + 1)).toNat < ((ks.length : Int) - (j : Int)).toNat := by
    intro w9 nd' hnd B9 E9
    rw [i64 (by omega) (by omega)]
    refine ⟨⟨j + 1, by omega, hlt, nd', _, F8, by rw [heq, hnd], hok8, hP8.ext E9 (fun b hb e => n38 (e ▸ hb)), hF8', n38, n48, Ew8.trans' E9 (fun i hi h => by subst h; omega), B9, q4.ext E9 n34.symm⟩, by omega⟩
   have hj2 : j = 0 ∨ j = 1 := by omega
   rcases hj2 with rfl | rfl
   ·refine ⟨p4, ⟨by omega, by simp, p4, rfl, rfl⟩, some (p3.add 5), q4.cell0, p3.add 5, rfl, q3.canW (by simp [nrow]), ?_⟩
    intro w9 hw9
    refine fin w9 _ rfl ?_ ?_
    ·rw [hw9, e1]; exact q3.set 5 _
    ·rw [hw9]; have := Ext.setCell (w := w8) (p3.add 5) (.int .i64 r1); rw [add_block] at this; exact this
   ·refine ⟨p4.add 1, ⟨by omega, by simp, p4, rfl, rfl⟩, some (p3.add 6), q4.cell rfl, p3.add 6, rfl, q3.canW (by simp [nrow]), ?_⟩
    intro w9 hw9
    refine fin w9 _ rfl ?_ ?_
    ·rw [hw9, e1]; exact q3.set 6 _
    ·rw [hw9]; have := Ext.setCell (w := w8) (p3.add 6) (.int .i64 r1); rw [add_block] at this; exact this
 ·have hge : j = ks.length := by have h := of_decide_eq_false h; omega
  rw [hge, List.drop_length, Sp.growAll] at heq
  obtain ⟨k0, f0, t0, u0, x0, a0, b0⟩ := nd
  refine ⟨_, _, _, _, _, _, _, d3.row, ?_⟩
  refine (c_Make p k0 f0 t0 u0 x0 a0 b0 wl hPl hok').mono ?_
  rintro _ w9 ⟨r1, r2, rfl, hr, F9, hP9, E9, hF9⟩
  have hsz : w.heap.size ≤ wl.heap.size := El.size
  refine ⟨_, _, rfl, hK _ _ _ ?_⟩
  rw [heq]
  exact ⟨hr, F9, hP9, El.trans' E9 (fun i hi h => (hF' i h).elim id (fun h => by omega)), fun b hb => (hF9 b hb).elim (hF' b) (fun h => by right; omega)⟩
theorem looks_two (t : Sp.Tree) : ∀ i n : Int, (Sp.looks i n t).1 = 0 → Sp.Tree.two t := by
 induction t using Sp.Tree.ind with
 | h k f t u x ks ih =>
  have hA : ∀ (ks : List Sp.Tree), (∀ i (hi : i < ks.length), ∀ j n : Int, (Sp.looks j n ks[i]).1 = 0 → Sp.Tree.two ks[i]) → ∀ i e n : Int, (Sp.looksAll i e n ks).1 = 0 → e = 0 ∧ twoAll ks := by
   intro ks
   induction ks with
   | nil => intro _ i e n h; exact ⟨by simpa [Sp.looksAll] using h, trivial⟩
   | cons t ts iht =>
    intro hh i e n h
    unfold Sp.looksAll at h
    split at h
    ·rename_i he
     have := iht (fun i hi => hh (i + 1) (by simpa using hi)) _ _ _ h
     exact ⟨he, hh 0 (by simp) i n this.1, this.2⟩
    ·rename_i he; exact absurd h he
  intro i n h
  unfold Sp.looks at h
  split at h
  ·cases h
  ·split at h
   ·cases h
   ·have := hA ks ih _ _ _ h
    refine two_mk.2 ⟨?_, this.2⟩
    have ho := this.1
    unfold Sp.ownErr at ho
    simp only at ho
    have hk := Sp.kids_le k
    by_cases hp : Sp.plainErr ⟨k, f, t, u, x, 0, 0⟩ = 0
    ·rw [if_pos hp] at ho
     by_cases hl : (ks.length : Int) ≠ (Sp.shapeOf k).kids
     ·rw [if_pos hl] at ho; simp at ho
     ·omega
    ·rw [if_neg hp, if_neg hp] at ho; exact absurd ho hp
theorem c_Of {S : NP} (p : Addr) (t : Sp.Tree) (s : Sl) (w : World) {L : Sp.Pool} {F : NP} (hT : TreeAt S w s t) (hP : PoolAt w p L F) (hok : Sp.Ok L) (hFS : ∀ b, F b → ¬ S b) (hSw : ∀ b, S b → b < w.heap.size) :
  Calls Tryz.prog 32 #[.pointer (some p), .agg (trow t s).toArray] w
   (fun e w' => ∃ r1 : Int, ∃ r2 : Int, e = .returned (.tuple #[.int .i64 r1, .int .i64 r2]) ∧ ((r1, r2) = ((Sp.of L t).1, (Sp.of L t).2.1) ∧ ∃ F', PoolAt w' p (Sp.of L t).2.2 F' ∧ Ext F w w' ∧ ∀ b, F' b → F b ∨ w.heap.size ≤ b)) := by
 obtain ⟨k, f, to, u, x, ks⟩ := t
 suffices key : ∀ K : Int → Int → WP, (∀ r1 r2 w', ((r1, r2) = ((Sp.of L (.mk k f to u x ks)).1, (Sp.of L (.mk k f to u x ks)).2.1) ∧ ∃ F', PoolAt w' p (Sp.of L (.mk k f to u x ks)).2.2 F' ∧ Ext F w w' ∧ ∀ b, F' b → F b ∨ w.heap.size ≤ b) → K r1 r2 w') → m_Y1 (some p) k f to u x s w K from
  w_Y1 _ _ _ _ _ _ _ w _ (key _ (fun _ _ _ h => h))
 intro K hK
 unfold m_Y1
 intro p2 w1 h1
 have b1 := Box.of_new h1
 have E1 : Pure w w1 := Ext.new h1
 refine Br.f rfl ?_
 intro p3 w2 h2
 have E2 : Pure w w2 := E1.trans (Ext.new h2)
 have o3 := New.own E1 h2
 have c3 := Box.of_new h2
 have n23 : p2.block ≠ p3.block := New.ne h2 b1.blk
 refine ⟨c3.canW0 (by simp), ?_⟩
 intro w3 hw3
 have c3' : Box w3 p3 [.int .i64 0] 3 := by rw [hw3]; exact c3.set0
 have E23 : Ext (· = p3.block) w2 w3 := by rw [hw3]; exact Ext.setCell p3 _
 clear hw3
 have E3 : Pure w w3 := E2.own o3 E23
 have b3 := (b1.pure (Ext.new h2 : Pure w1 w2)).ext E23 n23
 refine ⟨_, _, _, _, _, s, b3.row, ?_⟩
 generalize ht : Sp.Tree.mk k f to u x ks = t at *
 have htr : (Value.agg #[.int .i64 k, .int .i64 f, .int .i64 to, .int .u64 u, .string x, s.v]) = .agg (trow t s).toArray := by rw [← ht]; rfl
 rw [htr]
 refine (c_looks p3 (fun h => by have := hSw _ h; omega) _ t s 0 0 w3 (by omega) (by omega) (hT.pure E3) c3').mono ?_
 rintro _ w4 ⟨r1, rfl, rfl, _, E34⟩
 have E4 : Pure w w4 := E3.own o3 E34
 have b4 := b3.ext E34 n23
 have same : ∀ w', Pure w w' → ∃ F', PoolAt w' p L F' ∧ Ext F w w' ∧ ∀ b, F' b → F b ∨ w.heap.size ≤ b := fun w' E => ⟨F, hP.pure E, E.pure, fun _ h => .inl h⟩
 refine ⟨_, rfl, fun h => ?_, fun h => ?_⟩
 ·have h : (Sp.looks 0 0 t).1 ≠ 0 := by simpa using h
  have : Sp.of L t = (0, (Sp.looks 0 0 t).1, L) := by rw [Sp.of, if_pos h]
  refine hK _ _ _ ?_
  rw [this]; exact ⟨rfl, same _ E4⟩
 ·have h : (Sp.looks 0 0 t).1 = 0 := by simpa using h
  have hP4 := hP.pure E4
  obtain ⟨s0, m0, hS0, hF0⟩ := id hP4
  have hl0 : s0.len = L.length := by rw [hS0.rows.len]; simp
  refine ⟨p, rfl, s0, hS0.box.cell0, _, _, _, _, _, s, b4.row, ?_⟩
  rw [htr]
  refine (c_grow p t s w4 L F (looks_two t _ _ h) (hT.pure E4) hP4 hok hFS (fun b hb => by have := hSw b hb; have := E4.size; omega)).mono ?_
  rintro _ w5 ⟨r1, r2, rfl, hr, F5, hP5, E45, hF5⟩
  have e1 : r1 = (Sp.grow L t).1 := congrArg Prod.fst hr
  have e2 : r2 = (Sp.grow L t).2.1 := congrArg Prod.snd hr
  have hs4 : w.heap.size ≤ w4.heap.size := E4.size
  have E5 : Ext F w w5 := E4.pure.trans E45
  have hF5' : ∀ b, F5 b → F b ∨ w.heap.size ≤ b := fun b hb => (hF5 b hb).elim .inl (fun h => .inr (by omega))
  refine ⟨_, _, rfl, fun h' => ?_, fun h' => ?_⟩
  ·have h' : (Sp.grow L t).2.1 ≠ 0 := by rw [← e2]; simpa using h'
   obtain ⟨hok5, M, hM⟩ := Sp.grow_facts t L hok
   rw [hl0]
   refine (c_cut p L.length w5 hP5 hok5 (by rw [hM]; simp)).mono ?_
   rintro _ w6 ⟨rfl, hP6, E56⟩
   have : Sp.of L t = (0, (Sp.grow L t).2.1, L) := by rw [Sp.of, if_neg (by simp [h]), if_pos h']
   refine ⟨rfl, hK _ _ _ ?_⟩
   rw [this]
   rw [hM, List.take_left] at hP6
   exact ⟨by rw [e2], F5, hP6, E5.trans' E56 (fun i hi h => (hF5' i h).elim id (fun h => by omega)), hF5'⟩
  ·have h' : (Sp.grow L t).2.1 = 0 := by rw [← e2]; simpa using h'
   have : Sp.of L t = ((Sp.grow L t).1, 0, (Sp.grow L t).2.2) := by rw [Sp.of, if_neg (by simp [h]), if_neg (by simp [h'])]
   refine hK _ _ _ ?_
   rw [this]
   exact ⟨by rw [e1], F5, hP5, E5, hF5'⟩
end Go.Proofs
end
section
open Go Go.SE
namespace Go.Proofs
attribute [local irreducible] Calls
theorem fieldsErr_ne (s : Sp.Shape) (n : Sp.Node) : Sp.fieldsErr s n ≠ 53 := by
 unfold Sp.fieldsErr
 split
 ·omega
 ·split <;> omega
theorem ownErr_eq (k f t u : Int) (x : ByteArray) (len : Nat) : Sp.ownErr ⟨k, f, t, u, x, 0, 0⟩ len = (if (Sp.nodeErr ⟨k, f, t, u, x, 0, 0⟩ ≠ 53 ∧ (len : Int) ≠ (Sp.shapeOf k).kids) then 53 else Sp.nodeErr ⟨k, f, t, u, x, 0, 0⟩) := by
 unfold Sp.ownErr Sp.nodeErr
 simp only
 rcases plainErr_val ⟨k, f, t, u, x, 0, 0⟩ with h | h
 ·rw [h]; simp
 ·rw [h]
  have := fieldsErr_ne (Sp.shapeOf k) ⟨k, f, t, u, x, 0, 0⟩
  by_cases h2 : (len : Int) = (Sp.shapeOf k).kids <;> simp [h2, this]
theorem c_ref05_looked {S : NP} (q : Addr) (hq : ¬ S q.block) (T : TypeId) (t : Sp.Tree) : ∀ (s : Sl) (inside seen : Int) (w0 : World), 0 ≤ inside → 0 ≤ seen → TreeAt S w0 s t → (∀ b, S b → b < w0.heap.size) → Box w0 q [.int .i64 seen] T →
  Calls Tryz.prog 106 #[.agg (trow t s).toArray, .int .i64 inside, .pointer (some q)] w0
   (fun e w' => ∃ r : Int, e = .returned (.int .i64 r) ∧ (r = (Sp.looks inside seen t).1 ∧ Box w' q [.int .i64 (Sp.looks inside seen t).2] T ∧ Ext (· = q.block) w0 w')) := by
 induction t using Sp.Tree.ind with
 | h k f t u x ks ih =>
 intro s inside seen w0 hi0 hn0 hT hSw hB
 suffices key : ∀ K : Int → WP, (∀ r w', (r = (Sp.looks inside seen (.mk k f t u x ks)).1 ∧ Box w' q [.int .i64 (Sp.looks inside seen (.mk k f t u x ks)).2] T ∧ Ext (· = q.block) w0 w') → K r w') → m_T k f t u x s inside (some q) w0 K from
  w_T _ _ _ _ _ _ _ _ w0 _ (key _ (fun _ _ h => h))
 intro K hK
 have hql := hB.lt
 unfold m_T
 refine ⟨q, rfl, ?_⟩
 intro H1 w1 hs1
 have hB1 := hB.pure hs1.first
 refine ⟨seen, hB1.cell0, ?_⟩
 intro H5 w13 hs5
 have E13 := hs1.first.hst hs5
 have hB13 := hB.pure E13
 have hq0 : ∀ {H w' H' w''}, Hst w0 H w' H' w'' → ¬ H' q.block := fun h hh => by have := h.old _ hh; omega
 unfold m_T_j1
 refine ⟨fun h => ?_, fun h => ?_⟩
 ·have : Sp.looks inside seen (.mk k f t u x ks) = (52, seen) := by
   rw [Sp.looks]
   simp only [Bool.or_eq_true, decide_eq_true_eq] at h
   by_cases h1 : 4096 ≤ seen
   ·rw [if_pos h1]
   ·rw [if_neg h1, if_pos (by omega)]
  rw [this] at hK; exact hK _ _ ⟨rfl, hB13, E13.pure⟩
 ·have h1 : ¬ 4096 ≤ seen ∧ ¬ 64 ≤ inside := by
   simp only [Bool.or_eq_false_iff, decide_eq_false_iff_not] at h; omega
  have hsp : Sp.looks inside seen (.mk k f t u x ks) = Sp.looksAll (inside + 1) (Sp.ownErr ⟨k, f, t, u, x, 0, 0⟩ ks.length) (seen + 1) ks := by rw [Sp.looks, if_neg h1.1, if_neg h1.2]
  rw [hsp] at hK
  have hlen : s.len = ks.length := by cases hT; assumption
  have hfit : ks.length ≤ 9223372036854775807 := by cases hT; assumption
  refine ⟨q, rfl, seen, hB13.cell0, q, rfl, hB13.canW0 (by simp), hq0 hs5, ?_⟩
  rw [i64 (n := seen + 1) (by omega) (by omega)]
  rintro w2 hw2
  have hB2 : Box w2 q [.int .i64 (seen + 1)] T := by rw [hw2]; exact hB13.set0
  have E2 : Ext (· = q.block) w0 w2 := by rw [hw2]; exact E13.pure.trans (Ext.setCell q _)
  clear hw2
  rintro y1 rfl
  have hsh := ref05_shape ⟨k, f, t, u, x, 0, 0⟩
  simp only at hsh
  rw [hsh, ref05_kids, hlen]
  have hown : cond ((Sp.nodeErr ⟨k, f, t, u, x, 0, 0⟩ != 53) && ((ks.length : Int) != (Sp.shapeOf k).kids)) 53 (Sp.nodeErr ⟨k, f, t, u, x, 0, 0⟩) = Sp.ownErr ⟨k, f, t, u, x, 0, 0⟩ ks.length := by
   rw [ownErr_eq]
   by_cases h2 : Sp.nodeErr ⟨k, f, t, u, x, 0, 0⟩ = 53
   ·simp [h2]
   ·by_cases h3 : (ks.length : Int) = (Sp.shapeOf k).kids
    ·simp [h3]
    ·have e1 : (Sp.nodeErr ⟨k, f, t, u, x, 0, 0⟩ != 53) = true := by simpa using h2
     have e2 : ((ks.length : Int) != (Sp.shapeOf k).kids) = true := by simpa using h3
     rw [e1, e2, if_pos ⟨h2, h3⟩]; rfl
  rw [hown]
  intro H3 w10 hs3
  have E10 : Ext (· = q.block) w0 w10 := E2.hst hs3
  have hB10 := hB2.ext hs3.ext (hq0 hs3)
  refine ⟨fun e i H w' => ∃ j : Nat, i = j ∧ j ≤ ks.length ∧ ∃ n : Int, 0 ≤ n ∧ Ext (· = q.block) w0 w' ∧ Box w' q [.int .i64 n] T ∧ Sp.looksAll (inside + 1) e n (ks.drop j) = Sp.looksAll (inside + 1) (Sp.ownErr ⟨k, f, t, u, x, 0, 0⟩ ks.length) (seen + 1) ks, fun _ i _ => ((ks.length : Int) - i).toNat, ⟨0, rfl, Nat.zero_le _, seen + 1, by omega, E10, hB10, rfl⟩, ?_⟩
  rintro e1 _ Hl wl hl ⟨j, rfl, hj, n, hn, El, hBl, heq⟩
  unfold m_T_l2
  have hTl := hT.ext El (fun b hb e => hq (e ▸ hb))
  refine ⟨fun hc => ?_, fun hc => ?_⟩
  ·simp only [Bool.and_eq_true, beq_iff_eq] at hc
   obtain ⟨he, hlt⟩ := hc
   have hlt := lt_of_dec hlen hlt
   subst he
   cases hTl with
   | mk _ _ _ _ _ _ _ rs len fit row kid =>
   obtain ⟨a, hat, ha, hr⟩ := row j hlt
   refine ⟨a, hat, ?_⟩
   intro H4 w11 hs4
   have E11 := El.hst hs4
   have hT11 := hT.ext E11 (fun b hb e => hq (e ▸ hb))
   have hr11 : Row w11 a (trow ks[j] (rs j)) := hs4.ext.row hr (fun hh => by have := hs4.old _ hh; have := hSw _ ha; omega)
   have hk11 : TreeAt S w11 (rs j) ks[j] := (kid j hlt).ext hs4.ext (fun b hb hh => by have := hs4.old _ hh; have := hSw _ hb; omega)
   have hB11 := hBl.ext hs4.ext (hq0 hs4)
   refine ⟨_, _, _, _, _, rs j, hr11, ?_⟩
   rw [i64 (n := inside + 1) (by omega) (by omega)]
   refine (ih j hlt (rs j) (inside + 1) n w11 (by omega) hn hk11 (fun b hb => by have := hSw b hb; have := E11.size; omega) hB11).mono ?_
   rintro _ w12 ⟨r, rfl, rfl, hB12, E12⟩
   refine ⟨_, rfl, E12.kept (fun b hb e => hq0 hs4 (e ▸ hb)), ?_⟩
   rw [wrap_succ hlt (by omega)]
   refine ⟨⟨j + 1, rfl, hlt, _, looks_mono ks[j] (inside + 1) n hn, E11.trans E12, hB12, ?_⟩, lt_dec hlt⟩
   rw [← heq]; exact (looksAll_drop hlt (inside + 1) n).symm
  ·intro H4 w11 hs4
   have hfin : Sp.looksAll (inside + 1) e1 n (ks.drop j) = (e1, n) := by
    by_cases he : e1 = 0
    ·have hge : j = ks.length := by
      rw [he] at hc
      have hc : decide ((j : Int) < (s.len : Int)) = false := by simpa using hc
      exact eq_of_dec hlen hj hc
     rw [hge, List.drop_length]; rfl
    ·exact looksAll_bad he _ _
   rw [hfin] at heq
   refine hK _ _ ⟨by rw [← heq], ?_, El.hst hs4⟩
   rw [← heq]; exact hBl.ext hs4.ext (hq0 hs4)
theorem c_ref05_Looks {S : NP} (t : Sp.Tree) (s : Sl) (w0 : World) (hT : TreeAt S w0 s t) (hSw : ∀ b, S b → b < w0.heap.size) :
  Calls Tryz.prog 71 #[.agg (trow t s).toArray] w0 (fun e w' => ∃ r : Int, e = .returned (.int .i64 r) ∧ (r = (Sp.looks 0 0 t).1 ∧ Pure w0 w')) := by
 obtain ⟨k, f, to, u, x, ks⟩ := t
 refine w_F3 _ _ _ _ _ _ w0 (fun r w' => r = (Sp.looks 0 0 (.mk k f to u x ks)).1 ∧ Pure w0 w') ?_
 unfold m_F3
 intro H1 w1 hs1 p w2 h2
 have b2 := Box.of_new h2
 have E2 : Pure w0 w2 := hs1.first.trans (Ext.new h2)
 have o2 := New.own hs1.first h2
 have hpH : ¬ H1 p.block := fun hh => by have := hs1.lt _ hh; have := h2.at_size; omega
 refine ⟨b2.canW0 (by simp), hpH, ?_⟩
 rintro w3 hw3
 have b3 : Box w3 p [.int .i64 0] 3 := by rw [hw3]; exact b2.set0
 have E3 : Pure w0 w3 := by rw [hw3]; exact E2.own o2 (Ext.setCell p _)
 clear hw3
 refine (c_ref05_looked p (fun h => by have := hSw _ h; omega) _ _ s 0 0 w3 (Int.le_refl _) (Int.le_refl _) (hT.pure E3) (fun b hb => by have := hSw b hb; have := E3.size; omega) b3).mono ?_
 rintro _ w4 ⟨r, rfl, rfl, _, E4⟩
 exact ⟨_, rfl, E4.kept (fun b hb e => hpH (e ▸ hb)), rfl, E3.own o2 E4⟩
end Go.Proofs
end
section
open Go Go.SE
namespace Go.Proofs
attribute [local irreducible] Calls
theorem c_ref05_cut (p : Addr) (n : Nat) (w0 : World) {L : Sp.Pool} {F : NP} (hP : PoolR w0 p L F) (hn : n ≤ L.length) :
  Calls Tryz.prog 73 #[.pointer (some p), .int .i64 n] w0 (fun e w' => e = .returned (.tuple #[]) ∧ PoolR w' p (L.take n) F ∧ Ext F w0 w') := by
 suffices key : ∀ K : WP, (∀ w', PoolR w' p (L.take n) F ∧ Ext F w0 w' → K w') → m_B2 (some p) n w0 K from
  w_B2 _ _ w0 _ (key _ (fun _ h => h))
 intro K hK
 unfold m_B2
 obtain ⟨s1, s2, s3, hS, hF⟩ := hP
 obtain ⟨t1, hr1, R1, hb1⟩ := Rws.hi (P := Tryz.prog) slT_node hS.r1 (k := .i64) (n := n) (by omega) (by simpa using hn)
 refine ⟨p, rfl, s1, hS.box.cell0, t1, hr1, p, rfl, hS.box.canW0 (by simp), ?_⟩
 rintro w1 hw1
 have B1 : Box w1 p [t1.v, s2.v, s3.v] 45 := by rw [hw1]; exact hS.box.set0
 have X1 : Ext (· = p.block) w0 w1 := by rw [hw1]; exact Ext.setCell p _
 clear hw1
 obtain ⟨t2, hr2, R2, hb2⟩ := Rws.hi (P := Tryz.prog) slT_int (hS.r2.ext X1 (fun b hb e => hS.n2 (e ▸ hb))) (k := .i64) (n := n) (by omega) (by simpa using hn)
 refine ⟨p, rfl, s2, B1.cell rfl, t2, hr2, p, rfl, B1.canW (by simp), ?_⟩
 rintro w2 hw2
 have B2 : Box w2 p [t1.v, t2.v, s3.v] 45 := by rw [hw2]; exact B1.set 1 _
 have X2 : Ext (· = p.block) w1 w2 := by rw [hw2]; have := Ext.setCell (w := w1) (p.add 1) t2.v; rw [add_block] at this; exact this
 clear hw2
 obtain ⟨t3, hr3, R3, hb3⟩ := Rws.hi (P := Tryz.prog) slT_int (hS.r3.ext (X1.trans X2) (fun b hb e => hS.n3 (e ▸ hb))) (k := .i64) (n := n) (by omega) (by simpa using hn)
 refine ⟨p, rfl, s3, B2.cell rfl, t3, hr3, p, rfl, B2.canW (by simp), ?_⟩
 rintro w3 hw3
 have B3 : Box w3 p [t1.v, t2.v, t3.v] 45 := by rw [hw3]; exact B2.set 2 _
 have X3 : Ext (· = p.block) w2 w3 := by rw [hw3]; have := Ext.setCell (w := w2) (p.add 2) t3.v; rw [add_block] at this; exact this
 clear hw3
 have E := (X1.trans X2).trans X3
 refine hK _ ⟨⟨t1, t2, t3, ⟨B3, ?_, ?_, ?_, fun h => hS.n1 ((hb1 _).1 h), fun h => hS.n2 ((hb2 _).1 h), fun h => hS.n3 ((hb3 _).1 h), fun b h1 h2 => hS.d12 b ((hb1 b).1 h1) ((hb2 b).1 h2), fun b h1 h2 => hS.d13 b ((hb1 b).1 h1) ((hb3 b).1 h2), fun b h1 h2 => hS.d23 b ((hb2 b).1 h1) ((hb3 b).1 h2)⟩, fun b => by rw [hF b, hb1 b, hb2 b, hb3 b]⟩, E.mono (fun i _ h => (hF i).2 (.inl h))⟩
 ·have := R1.ext E (fun b hb e => hS.n1 ((hb1 _).1 (e ▸ hb)))
  rw [List.map_take]; simpa using this
 ·have := R2.ext (X2.trans X3) (fun b hb e => hS.n2 ((hb2 _).1 (e ▸ hb)))
  rw [List.map_take]; simpa using this
 ·have := R3.ext X3 (fun b hb e => hS.n3 ((hb3 _).1 (e ▸ hb)))
  rw [List.map_take]; simpa using this
theorem c_ref05_made {S : NP} (p : Addr) (t : Sp.Tree) : ∀ (s : Sl) (w0 : World) (L : Sp.Pool) (F : NP), Sp.Tree.two t → TreeAt S w0 s t → PoolR w0 p L F → Sp.Ok L → (∀ b, F b → ¬ S b) → (∀ b, S b → b < w0.heap.size) →
  Calls Tryz.prog 72 #[.pointer (some p), .agg (trow t s).toArray] w0
   (fun e w' => ∃ r1 : Int, ∃ r2 : Int, e = .returned (.tuple #[.int .i64 r1, .int .i64 r2]) ∧ ((r1, r2) = ((Sp.grow L t).1, (Sp.grow L t).2.1) ∧ ∃ F', PoolR w' p (Sp.grow L t).2.2 F' ∧ Ext F w0 w' ∧ ∀ b, F' b → F b ∨ w0.heap.size ≤ b)) := by
 induction t using Sp.Tree.ind with
 | h k f t u x ks ih =>
 intro s w0 L F h2 hT hP hok hFS hSw
 suffices key : ∀ K : Int → Int → WP, (∀ r1 r2 w', ((r1, r2) = ((Sp.grow L (.mk k f t u x ks)).1, (Sp.grow L (.mk k f t u x ks)).2.1) ∧ ∃ F', PoolR w' p (Sp.grow L (.mk k f t u x ks)).2.2 F' ∧ Ext F w0 w' ∧ ∀ b, F' b → F b ∨ w0.heap.size ≤ b) → K r1 r2 w') → m_I1 (some p) k f t u x s w0 K from
  w_I1 _ _ _ _ _ _ _ w0 _ (key _ (fun _ _ _ h => h))
 intro K hK
 obtain ⟨hk2, hall⟩ := two_mk.1 h2
 have hsp : Sp.grow L (.mk k f t u x ks) = Sp.growAll ⟨k, f, t, u, x, 0, 0⟩ 0 L ks := by rw [Sp.grow]
 rw [hsp] at hK
 have hlen : s.len = ks.length := by cases hT; assumption
 unfold m_I1
 intro H2 w4 hs4
 refine ⟨fun i a1 a2 a3 a4 a5 a6 a7 H w' => ∃ j : Nat, i = j ∧ j ≤ ks.length ∧ ∃ (L' : Sp.Pool) (F' : NP), Sp.growAll ⟨k, f, t, u, x, 0, 0⟩ 0 L ks = Sp.growAll ⟨a1, a2, a3, a4, a5, a6, a7⟩ j L' (ks.drop j) ∧ Sp.Ok L' ∧ PoolR w' p L' F' ∧ (∀ b, F' b → F b ∨ w0.heap.size ≤ b) ∧ (∀ b, F' b → ¬ H b) ∧ Ext F w0 w', fun i _ _ _ _ _ _ _ _ => ((ks.length : Int) - i).toNat,
  ⟨0, rfl, Nat.zero_le _, L, F, by simp, hok, hP.pure hs4.first, fun b h => .inl h, hs4.disj0 (fun b hb => hP.lt hb), hs4.first.pure⟩, ?_⟩
 rintro _ a1 a2 a3 a4 a5 a6 a7 Hl wl hl ⟨j, rfl, hj, L', F', heq, hok', hPl, hF', hv, El⟩
 unfold m_I1_l1
 refine ⟨fun h => ?_, fun h => ?_⟩
 ·have hlt := lt_of_dec hlen h
  have hTl : TreeAt S wl s (.mk k f t u x ks) := hT.ext El (fun b hs hf => hFS b hf hs)
  have hkid : ∃ a r, At s j 6 a ∧ Row wl a (trow ks[j] r) ∧ TreeAt S wl r ks[j] := by
   cases hTl with
   | mk _ _ _ _ _ _ _ rs len fit row kid => exact let ⟨a, h1, _, h3⟩ := row j hlt; ⟨a, rs j, h1, h3, kid j hlt⟩
  obtain ⟨a, r, hat, hrow, hTk⟩ := hkid
  refine ⟨a, hat, _, _, _, _, _, r, hrow, ?_⟩
  have hsz : w0.heap.size ≤ wl.heap.size := El.size
  refine (ih j hlt r wl L' F' (twoAll_get hall hlt) hTk hPl hok' (fun b hb hs => (hF' b hb).elim (fun h => hFS b h hs) (fun h => by have := hSw b hs; omega)) (fun b hs => by have := hSw b hs; omega)).mono ?_
  rintro _ w8 ⟨r1, r2, rfl, hr, F8, hP8, E8, hF8⟩
  have e1 : r1 = (Sp.grow L' ks[j]).1 := congrArg Prod.fst hr
  have e2 : r2 = (Sp.grow L' ks[j]).2.1 := congrArg Prod.snd hr
  rw [List.drop_eq_getElem_cons hlt] at heq
  have hF8' : ∀ b, F8 b → F b ∨ w0.heap.size ≤ b := fun b hb => (hF8 b hb).elim (hF' b) (fun h => by right; omega)
  have Ew8 : Ext F w0 w8 := El.trans' E8 (fun i hi h => (hF' i h).elim id (fun h => by omega))
  refine ⟨_, _, rfl, E8.kept (fun b hH hF => hv b hF hH), fun h => ?_, fun h => ?_⟩
  ·have h : (Sp.grow L' ks[j]).2.1 ≠ 0 := by rw [← e2]; simpa using h
   rw [growAll_bad h] at heq
   refine hK _ _ _ ?_
   rw [heq]; exact ⟨by rw [e2], F8, hP8, Ew8, hF8'⟩
  ·have h : (Sp.grow L' ks[j]).2.1 = 0 := by rw [← e2]; simpa using h
   rw [growAll_good h] at heq
   intro H3 w9 hs9
   have hv8 : ∀ b, F8 b → ¬ Hl b := fun b hb hH => (hF8 b hb).elim (fun h => hv b h hH) (fun h => by have := hl.lt b hH; omega)
   have hv9 : ∀ b, F8 b → ¬ H3 b := hs9.disj (fun b hb => ⟨hP8.lt hb, hv8 b hb⟩)
   rw [wrap_succ hlt (by omega)]
   refine ⟨⟨j + 1, rfl, hlt, _, F8, ?_, (Sp.grow_facts ks[j] L' hok').1, hP8.ext hs9.ext hv9, hF8', hv9, Ew8.hst hs9⟩, lt_dec hlt⟩
   rw [heq, e1]
   have hj0 : (((j : Int)) == 0) = decide (j = 0) := by rw [Bool.eq_iff_iff]; simp
   rw [hj0]
   by_cases hj0' : j = 0
   ·subst hj0'; rfl
   ·simp [hj0']
 ·have hge := eq_of_dec hlen hj h
  rw [hge, List.drop_length, Sp.growAll] at heq
  refine (c_ref05_Make p ⟨a1, a2, a3, a4, a5, a6, a7⟩ wl hPl hok').mono ?_
  rintro _ w9 ⟨r1, r2, rfl, hr, F9, hP9, E9, hF9⟩
  have hsz : w0.heap.size ≤ wl.heap.size := El.size
  refine ⟨_, _, rfl, E9.kept (fun b hH hF => hv b hF hH), hK _ _ _ ?_⟩
  rw [heq]
  exact ⟨hr, F9, hP9, El.trans' E9 (fun i hi h => (hF' i h).elim id (fun h => by omega)), fun b hb => (hF9 b hb).elim (hF' b) (fun h => by right; omega)⟩
theorem grow_bad_term (t : Sp.Tree) : ∀ L, (Sp.grow L t).2.1 ≠ 0 → (Sp.grow L t).1 = 0 := by
 induction t using Sp.Tree.ind with
 | h k f t u x ks ih =>
  have hmk : ∀ L n, (Sp.make L n).2.1 ≠ 0 → (Sp.make L n).1 = 0 := by
   intro L n h
   unfold Sp.make at h ⊢
   simp only at h ⊢
   split at h
   ·rename_i h1; rw [if_pos h1]
   ·rename_i h1
    rw [if_neg h1]
    split at h
    ·rename_i hf; exact absurd rfl h
    ·split at h
     ·rename_i h2; simp [h2]
     ·exact absurd rfl h
  have : ∀ (ks : List Sp.Tree), (∀ i (hi : i < ks.length), ∀ L, (Sp.grow L ks[i]).2.1 ≠ 0 → (Sp.grow L ks[i]).1 = 0) → ∀ n i L, (Sp.growAll n i L ks).2.1 ≠ 0 → (Sp.growAll n i L ks).1 = 0 := by
   intro ks
   induction ks with
   | nil => intro _ n i L h; unfold Sp.growAll at h ⊢; exact hmk L n h
   | cons t ts iht =>
    intro hh n i L h
    unfold Sp.growAll at h ⊢
    split at h
    ·rename_i h1; rw [if_pos h1]
    ·rename_i h1; rw [if_neg h1]; exact iht (fun i hi => hh (i + 1) (by simpa using hi)) _ _ _ h
  intro L h
  unfold Sp.grow at h ⊢
  exact this ks ih _ _ L h
theorem c_ref05_Of {S : NP} (p : Addr) (t : Sp.Tree) (s : Sl) (w0 : World) {L : Sp.Pool} {F : NP} (hT : TreeAt S w0 s t) (hP : PoolR w0 p L F) (hok : Sp.Ok L) (hFS : ∀ b, F b → ¬ S b) (hSw : ∀ b, S b → b < w0.heap.size) :
  Calls Tryz.prog 34 #[.pointer (some p), .agg (trow t s).toArray] w0
   (fun e w' => ∃ r1 : Int, ∃ r2 : Int, e = .returned (.tuple #[.int .i64 r1, .int .i64 r2]) ∧ ((r1, r2) = ((Sp.of L t).1, (Sp.of L t).2.1) ∧ ∃ F', PoolR w' p (Sp.of L t).2.2 F' ∧ Ext F w0 w' ∧ ∀ b, F' b → F b ∨ w0.heap.size ≤ b)) := by
 obtain ⟨k, f, to, u, x, ks⟩ := t
 suffices key : ∀ K : Int → Int → WP, (∀ r1 r2 w', ((r1, r2) = ((Sp.of L (.mk k f to u x ks)).1, (Sp.of L (.mk k f to u x ks)).2.1) ∧ ∃ F', PoolR w' p (Sp.of L (.mk k f to u x ks)).2.2 F' ∧ Ext F w0 w' ∧ ∀ b, F' b → F b ∨ w0.heap.size ≤ b) → K r1 r2 w') → m_C2 (some p) k f to u x s w0 K from
  w_C2 _ _ _ _ _ _ _ w0 _ (key _ (fun _ _ _ h => h))
 intro K hK
 unfold m_C2
 intro H1 w1 hs1
 have E1 := hs1.first
 generalize ht : Sp.Tree.mk k f to u x ks = t at *
 have htr : (Value.agg #[.int .i64 k, .int .i64 f, .int .i64 to, .int .u64 u, .string x, s.v]) = .agg (trow t s).toArray := by rw [← ht]; rfl
 rw [htr]
 refine (c_ref05_Looks t s w1 (hT.pure E1) (fun b hb => by have := hSw b hb; have := E1.size; omega)).mono ?_
 rintro _ w2 ⟨r1, rfl, rfl, E2⟩
 have E12 := E1.trans E2
 refine ⟨_, rfl, E2.keptP, fun h => ?_, fun h => ?_⟩
 ·have h : (Sp.looks 0 0 t).1 ≠ 0 := by simpa using h
  have : Sp.of L t = (0, (Sp.looks 0 0 t).1, L) := by rw [Sp.of, if_pos h]
  refine hK _ _ _ ?_
  rw [this]; exact ⟨rfl, F, hP.pure E12, E12.pure, fun _ h => .inl h⟩
 ·have h : (Sp.looks 0 0 t).1 = 0 := by simpa using h
  have hP2 := hP.pure E12
  have hv : ∀ b, F b → ¬ H1 b := hs1.disj0 (fun b hb => hP.lt hb)
  obtain ⟨s1, s2, s3, hS, hF0⟩ := id hP2
  have hl0 : s1.len = L.length := by rw [hS.r1.len]; simp
  refine ⟨p, rfl, s1, hS.box.cell0, ?_⟩
  refine (c_ref05_made p t s w2 L F (looks_two t _ _ h) (hT.pure E12) hP2 hok hFS (fun b hb => by have := hSw b hb; have := E12.size; omega)).mono ?_
  rintro _ w5 ⟨r1, r2, rfl, hr, F5, hP5, E5, hF5⟩
  have e1 : r1 = (Sp.grow L t).1 := congrArg Prod.fst hr
  have e2 : r2 = (Sp.grow L t).2.1 := congrArg Prod.snd hr
  have hs4 : w0.heap.size ≤ w2.heap.size := E12.size
  have E05 : Ext F w0 w5 := E12.pure.trans E5
  have hF5' : ∀ b, F5 b → F b ∨ w0.heap.size ≤ b := fun b hb => (hF5 b hb).elim .inl (fun h => .inr (by omega))
  have hs2 := hs1.again E2.keptP
  have hv5 : ∀ b, F5 b → ¬ H1 b := fun b hb hH => (hF5 b hb).elim (fun h => hv b h hH) (fun h => by have := hs2.lt b hH; omega)
  refine ⟨_, _, rfl, E5.kept (fun b hH hF => hv b hF hH), fun h' => ?_, fun h' => ?_⟩
  ·have h' : (Sp.grow L t).2.1 ≠ 0 := by rw [← e2]; simpa using h'
   obtain ⟨hok5, M, hM⟩ := Sp.grow_facts t L hok
   rw [hl0]
   refine (c_ref05_cut p L.length w5 hP5 (by rw [hM]; simp)).mono ?_
   rintro _ w6 ⟨rfl, hP6, E6⟩
   have : Sp.of L t = (0, (Sp.grow L t).2.1, L) := by rw [Sp.of, if_neg (by simp [h]), if_pos h']
   refine ⟨rfl, E6.kept (fun b hH hF => hv5 b hF hH), hK _ _ _ ?_⟩
   rw [this]
   rw [hM, List.take_left] at hP6
   exact ⟨by rw [e1, e2, grow_bad_term t L h'], F5, hP6, E05.trans' E6 (fun i hi h => (hF5' i h).elim id (fun h => by omega)), hF5'⟩
  ·have h' : (Sp.grow L t).2.1 = 0 := by rw [← e2]; simpa using h'
   have : Sp.of L t = ((Sp.grow L t).1, 0, (Sp.grow L t).2.2) := by rw [Sp.of, if_neg (by simp [h]), if_neg (by simp [h'])]
   refine hK _ _ _ ?_
   rw [this]
   exact ⟨by rw [e1, e2, h'], F5, hP5, E05, hF5'⟩
end Go.Proofs
end
section
namespace Go.Sp
inductive Good : Tree → Prop
 | mk (k f t u : Int) (x : ByteArray) (ks : List Tree) (own : ownErr ⟨k, f, t, u, x, 0, 0⟩ ks.length = 0) (kids : ∀ i (hi : i < ks.length), Good ks[i]) : Good (.mk k f t u x ks)
theorem Good.inv {k f t u : Int} {x : ByteArray} {ks : List Tree} (h : Good (.mk k f t u x ks)) : plainErr ⟨k, f, t, u, x, 0, 0⟩ = 0 ∧ (ks.length : Int) = (shapeOf k).kids ∧ fieldsErr (shapeOf k) ⟨k, f, t, u, x, 0, 0⟩ = 0 ∧ ∀ i (hi : i < ks.length), Good ks[i] := by
 cases h with
 | mk _ _ _ _ _ _ own kids =>
  unfold ownErr at own
  simp only at own
  by_cases hp : plainErr ⟨k, f, t, u, x, 0, 0⟩ = 0
  ·rw [if_pos hp] at own
   by_cases hl : (ks.length : Int) ≠ (shapeOf k).kids
   ·rw [if_pos hl] at own; simp at own
   ·rw [if_neg hl] at own
    simp at own
    exact ⟨hp, by simpa using hl, own, kids⟩
  ·rw [if_neg hp, if_neg hp] at own; exact absurd own hp
end Go.Sp
end
section
namespace Go.Sp
mutual
def cnt : Tree → Nat
 | .mk _ _ _ _ _ ks => 1 + cntAll ks
def cntAll : List Tree → Nat
 | [] => 0
 | t :: ts => cnt t + cntAll ts
end
mutual
def parts (most : Int) : Tree → Int
 | .mk _ _ _ _ _ ks => partsAll most 1 ks
def partsAll (most n : Int) : List Tree → Int
 | [] => n
 | t :: ts => if n ≤ most then partsAll most (n + parts (most - n) t) ts else n
end
theorem parts_facts (t : Tree) : ∀ most : Int, 0 ≤ most → 1 ≤ parts most t ∧ parts most t ≤ most + 1 ∧ (parts most t ≤ most → (cnt t : Int) = parts most t) := by
 induction t using Tree.ind with
 | h k f tt u x ks ih =>
  have hA : ∀ (ks : List Tree), (∀ i (hi : i < ks.length), ∀ most : Int, 0 ≤ most → 1 ≤ parts most ks[i] ∧ parts most ks[i] ≤ most + 1 ∧ (parts most ks[i] ≤ most → (cnt ks[i] : Int) = parts most ks[i])) →
    ∀ most n : Int, 1 ≤ n → n ≤ most + 1 → n ≤ partsAll most n ks ∧ partsAll most n ks ≤ most + 1 ∧ (partsAll most n ks ≤ most → n + (cntAll ks : Int) = partsAll most n ks) := by
   intro ks
   induction ks with
   | nil => intro _ most n h1 h2; simp [partsAll, cntAll, h2]
   | cons t ts iht =>
    intro hh most n h1 h2
    unfold partsAll
    by_cases hn : n ≤ most
    ·rw [if_pos hn]
     have h0 := hh 0 (by simp) (most - n) (by omega)
     simp only [List.getElem_cons_zero] at h0
     have h3 := iht (fun i hi => hh (i + 1) (by simpa using hi)) most (n + parts (most - n) t) (by omega) (by omega)
     refine ⟨by omega, h3.2.1, fun h => ?_⟩
     have h4 := h3.2.2 h
     have h5 := h0.2.2 (by omega)
     simp only [cntAll]; omega
    ·rw [if_neg hn]; exact ⟨Int.le_refl _, h2, fun h => absurd h hn⟩
  intro most hm
  have := hA ks ih most 1 (by omega) (by omega)
  simp only [parts, cnt]
  refine ⟨this.1, this.2.1, fun h => ?_⟩
  have := this.2.2 h
  omega
mutual
def same : Tree → Tree → Bool
 | .mk k f t u x ks, .mk k' f' t' u' x' ks' => decide (k = k') && decide (f = f') && decide (t = t') && decide (u = u') && decide (x = x') && sameAll ks ks'
def sameAll : List Tree → List Tree → Bool
 | [], [] => true
 | t :: ts, t' :: ts' => same t t' && sameAll ts ts'
 | _, _ => false
end
end Go.Sp
end
section
open Go Go.SE
namespace Go.Proofs
attribute [local irreducible] Calls
theorem TreeAt.hst {S : NP} {w0 w w' : World} {H H' : NP} {s : Sl} {t : Sp.Tree} (h : TreeAt S w s t) (hs : Hst w0 H w H' w') (hd : ∀ b, S b → b < w.heap.size ∧ ¬ H b) : TreeAt S w' s t :=
 h.ext hs.ext (fun b hb hh => hs.disj (G := S) hd b hb hh)
theorem c_ref05_Parts {S : NP} (t : Sp.Tree) : ∀ (s : Sl) (most : Int) (w0 : World), 0 ≤ most → most ≤ 1000000000 → TreeAt S w0 s t → (∀ b, S b → b < w0.heap.size) →
  Calls Tryz.prog 26 #[.agg (trow t s).toArray, .int .i64 most] w0 (fun e w' => ∃ r : Int, e = .returned (.int .i64 r) ∧ (r = Sp.parts most t ∧ Pure w0 w')) := by
 induction t using Sp.Tree.ind with
 | h k f t u x ks ih =>
 intro s most w0 hm0 hm hT hSw
 suffices key : ∀ K : Int → WP, (∀ r w', (r = Sp.parts most (.mk k f t u x ks) ∧ Pure w0 w') → K r w') → m_G1 k f t u x s most w0 K from
  w_G1 _ _ _ _ _ _ _ w0 _ (key _ (fun _ _ h => h))
 intro K hK
 have hlen : s.len = ks.length := by cases hT; assumption
 have hfit : ks.length ≤ 9223372036854775807 := by cases hT; assumption
 unfold m_G1
 intro H1 w1 hs1
 refine ⟨fun n i H w' => ∃ j : Nat, i = j ∧ j ≤ ks.length ∧ 1 ≤ n ∧ n ≤ most + 1 ∧ Pure w0 w' ∧ Sp.partsAll most 1 ks = Sp.partsAll most n (ks.drop j), fun _ i _ => ((ks.length : Int) - i).toNat, ⟨0, rfl, Nat.zero_le _, Int.le_refl _, by omega, hs1.first, rfl⟩, ?_⟩
 rintro n _ Hl wl hl ⟨j, rfl, hj, hn1, hn2, El, heq⟩
 unfold m_G1_l1
 refine ⟨fun hc => ?_, fun hc => ?_⟩
 ·simp only [Bool.and_eq_true, decide_eq_true_eq] at hc
  have hlt : j < ks.length := by omega
  rw [List.drop_eq_getElem_cons hlt, Sp.partsAll, if_pos hc.2] at heq
  have hT1 := hT.pure El
  cases hT1 with
  | mk _ _ _ _ _ _ _ rs len fit row kid =>
  obtain ⟨a, hat, ha, hr⟩ := row j hlt
  refine ⟨a, hat, ?_⟩
  intro H2 w2 hs2
  have hd : ∀ b, S b → ¬ H2 b := fun b hb hh => by have := hs2.old _ hh; have := hSw b hb; omega
  refine ⟨_, _, _, _, _, rs j, hs2.ext.row hr (hd _ ha), ?_⟩
  rw [i64 (n := most - n) (by omega) (by omega)]
  refine (ih j hlt (rs j) (most - n) w2 (by omega) (by omega) ((kid j hlt).ext hs2.ext hd) (fun b hb => by have := hSw b hb; have := (El.hst hs2).size; omega)).mono ?_
  rintro _ w3 ⟨r, rfl, rfl, E3⟩
  have hpf := Sp.parts_facts ks[j] (most - n) (by omega)
  refine ⟨_, rfl, E3.keptP, ?_⟩
  rw [wrap_succ hlt (by omega), i64 (n := n + Sp.parts (most - n) ks[j]) (by omega) (by omega)]
  exact ⟨⟨j + 1, rfl, hlt, by omega, by omega, (El.hst hs2).trans E3, heq⟩, lt_dec hlt⟩
 ·intro H2 w2 hs2
  refine hK _ _ ⟨?_, El.hst hs2⟩
  rw [Sp.parts, heq]
  by_cases hj2 : j = ks.length
  ·rw [hj2, List.drop_length]; rfl
  ·have hlt : j < ks.length := by omega
   rw [List.drop_eq_getElem_cons hlt, Sp.partsAll, if_neg]
   intro h
   have : decide (n ≤ most) = true := decide_eq_true h
   have h2 : decide ((j : Int) < (s.len : Int)) = true := decide_eq_true (by omega)
   rw [this, h2] at hc; cases hc
end Go.Proofs
end
section
open Go Go.SE
open Go.IntKind renaming i64 → q6
namespace Go.Proofs
set_option maxRecDepth 100000
set_option maxHeartbeats 4000000
attribute [local irreducible] wpL wpX opE wpE Calls
def m_Q1_l1 (l1 : Sl) (n1 i1 : Int) (wl1 : World) (Kc1 : Int → Int → WP) (K : Bool → WP) : Prop :=
 Br ((decide (i1 < (l1.len : Int))) && (decide (i1 ≤ 12)))
  (∃ a1 : Addr, At l1 i1 6 a1 ∧
  ∃ aA aB : Int, ∃ aC aD : Int, ∃ aE : ByteArray, ∃ aF : Sl, Row wl1 a1 [(vi aA), (vi aB), (vi aC), (vu aD), (vs aE), aF.v] ∧
  Calls Tryz.prog 26 #[(.agg #[(vi aA), (vi aB), (vi aC), (vu aD), (vs aE), aF.v]), (vi 400)] wl1 (fun e w2 => ∃ r1 : Int, e = .returned (vi r1) ∧ 
   Br (decide ((q6.wrap (n1 + r1)) ≥ 400))
    (K true w2)
    (Kc1 (q6.wrap (n1 + r1)) (q6.wrap (i1 + 1)) w2)))
  (K (decide ((l1.len : Int) > 12)) wl1)
def m_Q1 (l1 : Sl) (w0 : World) (K : Bool → WP) : Prop :=
 ∃ (I1 : Int → Int → WP) (mu1 : Int → Int → World → Nat), I1 0 0 w0 ∧
  ∀ (n1 i1 : Int) (wl1 : World), I1 n1 i1 wl1 → m_Q1_l1 l1 n1 i1 wl1 (fun y'0 y'1 w' => I1 y'0 y'1 w' ∧ mu1 y'0 y'1 w' < mu1 n1 i1 wl1) K
theorem w_Q1 (l1 : Sl) (w0 : World) (K : Bool → WP) (h : m_Q1 l1 w0 K) :
  Calls Tryz.prog 17 #[l1.v] w0 (fun e w' => ∃ r2 : Bool, e = .returned (vb r2) ∧ K r2 w') := by
 unfold m_Q1 at h
 refine cw (args := [l1.v]) Tryz.func17 Tryz.ntmps17 (wpE_seq (rg (q0 (vb false) (wpL_nil (th_n (wpE_seq (rg (q0 (vi 0) (wpL_nil (th_n (wpE_seq ?_)))))))))))
 refine wpE_seq (rg (q0 (vi 0) (wpL_nil (th_n (wpE_block ?_)))))
 obtain ⟨I1, mu1, h0, hr⟩ := h
 refine wpE_loop (σ := Int × Int × World) (fun s ρ w => w = s.2.2 ∧ Has ρ [(0, l1.v), (3, (vi s.1)), (4, (vi s.2.1))] ∧ I1 s.1 s.2.1 s.2.2) (fun s => mu1 s.1 s.2.1 s.2.2) (0, 0, w0) ⟨rfl, hm, h0⟩ ?_
 rintro ⟨n1, i1, wl1⟩ ρ w ⟨hw, hH, hI⟩
 obtain rfl : wl1 = w := (show w = wl1 from hw).symm
 have hH : Has ρ [(0, l1.v), (3, (vi n1)), (4, (vi i1))] := hH
 have h := hr n1 i1 wl1 hI
 unfold m_Q1_l1 at h
 refine wpE_has hH ?_
 refine wpE_seq (wpE_seq ?_)
 refine wpE_via (fun ρ wJ => ∃ b1'0 : Bool, ((decide (i1 < (l1.len : Int))) = b1'0) ∧ wl1 = wJ ∧ Has ρ [(0, l1.v), (3, (vi n1)), (4, (vi i1)), (12, (vb (b1'0 && (decide (i1 ≤ 12)))))]) ?_ ?_
 ·refine rg (q0 (vi i1) (q0 l1.v (q0 (vi (l1.len : Int)) (q0 (vb (decide (i1 < (l1.len : Int)))) (q0 (vb (decide (i1 < (l1.len : Int)))) ?_)))))
  rcases Bool.eq_false_or_eq_true (decide (i1 < (l1.len : Int))) with hg2 | hg2
  ·refine q1 (vi i1) (want1 rfl (yD 9 hg2)) (q1 (vb (decide (i1 ≤ 12))) (want1 rfl (yD 9 hg2)) (q2 (vb (decide (i1 ≤ 12))) (xT hg2) (wpL_nil (th_n ?_))))
   exact ⟨true, hg2, rfl, hm⟩
  ·refine sk (yD 9 hg2) (sk (yD 9 hg2) (q2 (vb false) (xF hg2) (wpL_nil (th_n ?_))))
   exact ⟨false, hg2, rfl, hm⟩
 ·rintro ρ w1 ⟨b1'0, he0, hw, hH⟩
  subst he0
  subst hw
  refine norm_has hH ?_
  refine th_n ?_
  refine wpE_cond (t := ((decide (i1 < (l1.len : Int))) && (decide (i1 ≤ 12)))) (by kernel_rfl) (fun hc1 => ?_) (fun hc1 => ?_)
  ·have h := h.1 hc1
   refine wpE_skip (th_n (wpE_seq (wpE_block (wpE_seq (rg (q0 (vi n1) (q0 l1.v (q0 (vi i1) ?_))))))))
   obtain ⟨a1, hv2, h⟩ := h
   refine q2 (vp (some a1)) (xi (Tryz.runUnderlying22 _) (Tryz.sizeOf49 _) hv2) ?_
   obtain ⟨aA, aB, aC, aD, aE, aF, hv1, h⟩ := h
   refine q2 (.agg #[(vi aA), (vi aB), (vi aC), (vu aD), (vs aE), aF.v]) (x_loadA (a := a1) (vs := [(vi aA), (vi aB), (vi aC), (vu aD), (vs aE), aF.v]) (by kernel_rfl) (Tryz.isAgg49 _) (Tryz.sizeOf49 _) rfl hv1) ?_
   refine sc Tryz.call26 (h.mono ?_)
   rintro e w2 ⟨r1, rfl, h⟩
   refine ⟨_, rfl, ?_⟩
   refine q0 (vi (q6.wrap (n1 + r1))) (q0 (vi (q6.wrap (n1 + r1))) (wpL_nil (th_n (wpE_seq (rg (q0 (vi (q6.wrap (n1 + r1))) (q0 (vb (decide ((q6.wrap (n1 + r1)) ≥ 400))) (wpL_nil (th_n ?_)))))))))
   refine wpE_cond (t := (decide ((q6.wrap (n1 + r1)) ≥ 400))) (by kernel_rfl) (fun hc2 => ?_) (fun hc2 => ?_)
   ·have h := h.1 hc2
    refine wpE_seq (rg (q0 (vb true) (wpL_nil (th_n (wpE_ret (bl_r (th_r (th_r (bl_r (th_r (rs1 Tryz.results17 (v := (vb true)) ?_)))))))))))
    exact ⟨true, rfl, h⟩
   ·have h := h.2 hc2
    refine wpE_skip (bl_n (th_n (rg (q0 (vi i1) (q0 (vi (q6.wrap (i1 + 1))) (q0 (vi (q6.wrap (i1 + 1))) (wpL_nil (th_n ?_))))))))
    exact ⟨((q6.wrap (n1 + r1)), (q6.wrap (i1 + 1)), w2), ⟨rfl, hm, h.1⟩, h.2⟩
  ·have h := h.2 hc1
   refine wpE_exit (th_x (th_x (bl_eq (th_n (wpE_seq (rg (q0 l1.v (q0 (vi (l1.len : Int)) (q0 (vb (decide ((l1.len : Int) > 12))) (q0 (vb (decide ((l1.len : Int) > 12))) (wpL_nil ?_)))))))))))
   refine th_n (wpE_ret (rs1 Tryz.results17 (v := (vb (decide ((l1.len : Int) > 12)))) ?_))
   exact ⟨(decide ((l1.len : Int) > 12)), rfl, h⟩
def s_K1 (e1 : Int) : Int :=
 e1
theorem pw_K1 (e1 : Int) (w0 : World) :
  Calls Tryz.prog 22 #[(vi e1)] w0 (fun e w' => (e = .returned (vi e1)) ∧ Pure w0 w') := by
 refine cw (args := [(vi e1)]) Tryz.func22 Tryz.ntmps22 (wpE_seq (rg (q0 (vi 0) (wpL_nil (th_n (wpE_seq (rg (q0 (vi e1) (q0 (vi e1) (wpL_nil (th_n ?_)))))))))))
 refine wpE_ret (rs1 Tryz.results22 (v := (vi e1)) ?_)
 exact ⟨by kernel_rfl, Ext.refl _⟩
theorem p_K1 (e1 : Int) (w0 : World) : Calls Tryz.prog 22 #[(.int .i64 e1)] w0 (fun e w' => e = .returned (.int .i64 (s_K1 e1)) ∧ Pure w0 w') := pw_K1 e1 w0
def m_O_j4 (r2 : Option Addr) (x4 : Bool) (w0 : World) (H : NP) (w : World) (K : Bool → WP) : Prop :=
 Br x4
  (Calls Tryz.prog 23 #[(vp r2), (vi 99)] w (fun e w29 => ∃ r26 : Int, e = .returned (vi r26) ∧ 
   Kept H w w29 ∧
   ∀ (w30 : World), Hst w0 H w29 H w30 →
   K (r26 == 51) w30))
  (K false w)
def m_O_j3 (r2 : Option Addr) (r25 : Int) (x3 : Bool) (w0 : World) (H : NP) (w : World) (K : Bool → WP) : Prop :=
 Br (x3 && (r25 == 0))
  (∀ (H7 : NP) (w28 : World), Hst w0 H w H7 w28 →
  Calls Tryz.prog 55 #[(vp r2)] w28 (fun e w31 => ∃ r27 : Sl, e = .returned r27.v ∧ 
   Kept H7 w28 w31 ∧
   m_O_j4 r2 (((r27.len : Int) : Int) == 2) w0 H7 w31 K))
  (∀ (H7 : NP) (w28 : World), Hst w0 H w H7 w28 →
  m_O_j4 r2 false w0 H7 w28 K)
def m_O_j2 (r2 : Option Addr) (r3 r25 : Int) (x2 : Bool) (w0 : World) (H : NP) (w : World) (K : Bool → WP) : Prop :=
 Br x2
  (Calls Tryz.prog 54 #[(vp r2), (vi r3)] w (fun e w32 => ∃ r28 : Bool, e = .returned (vb r28) ∧ 
   Kept H w w32 ∧
   m_O_j3 r2 r25 r28 w0 H w32 K))
  (m_O_j3 r2 r25 false w0 H w K)
def m_O_j1 (r2 : Option Addr) (r3 r15 r25 : Int) (x1 : Bool) (w0 : World) (H : NP) (w : World) (K : Bool → WP) : Prop :=
 Br x1
  (Calls Tryz.prog 54 #[(vp r2), (vi r15)] w (fun e w33 => ∃ r29 : Bool, e = .returned (vb r29) ∧ 
   Kept H w w33 ∧
   m_O_j2 r2 r3 r25 (!r29) w0 H w33 K))
  (m_O_j2 r2 r3 r25 false w0 H w K)
def m_O  (w0 : World) (K : Bool → WP) : Prop :=
 Calls Tryz.prog 27 #[] w0 (fun e w1 => ∃ r1 : Option Addr, e = .returned (vp r1) ∧ 
  Kept None w0 w1 ∧
  Calls Tryz.prog 20 #[(vp r1)] w1 (fun e w2 => ∃ r2 : Option Addr, e = .returned (vp r2) ∧ 
   Kept None w1 w2 ∧
   Br ((Option.isNone r1) || (Option.isNone r2))
    (∀ (H1 : NP) (w3 : World), Hst w0 None w2 H1 w3 →
    K false w3)
    (∀ (H1 : NP) (w3 : World), Hst w0 None w2 H1 w3 →
    Calls Tryz.prog 47 #[(vp r1), (vu 1)] w3 (fun e w4 => ∃ r3 r4 : Int, e = .returned (.tuple #[(vi r3), (vi r4)]) ∧ 
     Kept H1 w3 w4 ∧
     Calls Tryz.prog 28 #[(vp r1), (vi 2)] w4 (fun e w5 => ∃ r5 r6 : Int, e = .returned (.tuple #[(vi r5), (vi r6)]) ∧ 
      Kept H1 w4 w5 ∧
      Calls Tryz.prog 29 #[(vp r1), (vi r3), (vi r5)] w5 (fun e w6 => ∃ r7 r8 : Int, e = .returned (.tuple #[(vi r7), (vi r8)]) ∧ 
       Kept H1 w5 w6 ∧
       Calls Tryz.prog 48 #[(vp r1), (vi 0), (vi r7)] w6 (fun e w7 => ∃ r9 r10 : Int, e = .returned (.tuple #[(vi r9), (vi r10)]) ∧ 
        Kept H1 w6 w7 ∧
        Calls Tryz.prog 49 #[(vp r1), (vi r3)] w7 (fun e w8 => ∃ r11 r12 : Int, e = .returned (.tuple #[(vi r11), (vi r12)]) ∧ 
         Kept H1 w7 w8 ∧
         Calls Tryz.prog 50 #[(vp r1), (vi 0)] w8 (fun e w9 => ∃ r13 r14 : Int, e = .returned (.tuple #[(vi r13), (vi r14)]) ∧ 
          Kept H1 w8 w9 ∧
          Calls Tryz.prog 48 #[(vp r1), (vi 0), (vi r3)] w9 (fun e w10 => ∃ r15 r16 : Int, e = .returned (.tuple #[(vi r15), (vi r16)]) ∧ 
           Kept H1 w9 w10 ∧
           Calls Tryz.prog 23 #[(vp r2), (vi r9)] w10 (fun e w11 => ∃ r17 : Int, e = .returned (vi r17) ∧ 
            Kept H1 w10 w11 ∧
            Calls Tryz.prog 51 #[(vp r2), (vi r11)] w11 (fun e w12 => ∃ r18 : Sl, ∃ r19 : Bool, e = .returned (.tuple #[r18.v, (vb r19)]) ∧ 
             Kept H1 w11 w12 ∧
             ∀ (p1 : Addr) (w13 : World), New w12 (.cells #[(vi r9)] 30) p1 w13 →
             Calls Tryz.prog 52 #[(vp r1), (Sl.mk (some p1) 1 1).v, r18.v, (vi r11)] w13 (fun e w14 => ∃ r20 r21 : Int, e = .returned (.tuple #[(vi r20), (vi r21)]) ∧ 
              Kept H1 w13 w14 ∧
              Calls Tryz.prog 53 #[(vp r2), (vi r15)] w14 (fun e w15 => ∃ r22 : Bool, e = .returned (vb r22) ∧ 
               Kept H1 w14 w15 ∧
               Calls Tryz.prog 23 #[(vp r2), (vi r13)] w15 (fun e w16 => ∃ r23 : Int, e = .returned (vi r23) ∧ 
                Kept H1 w15 w16 ∧
                Calls Tryz.prog 52 #[(vp r1), Sl.nil.v, Sl.nil.v, (vi r11)] w16 (fun e w17 => ∃ r24 r25 : Int, e = .returned (.tuple #[(vi r24), (vi r25)]) ∧ 
                 Kept H1 w16 w17 ∧
                 ∀ y1 : Bool, y1 = (((((r17 == 0) && (r23 == 0)) && (decide ((r18.len : Int) > 0))) && r19) && (r20 == 0)) →
                 Br (y1 && (!r22))
                  (∀ (H6 : NP) (w27 : World), Hst w0 H1 w17 H6 w27 →
                  Calls Tryz.prog 53 #[(vp r2), (vi r15)] w27 (fun e w34 => ∃ r30 : Bool, e = .returned (vb r30) ∧ 
                   Kept H6 w27 w34 ∧
                   m_O_j1 r2 r3 r15 r25 r30 w0 H6 w34 K))
                  (∀ (H6 : NP) (w27 : World), Hst w0 H1 w17 H6 w27 →
                  m_O_j1 r2 r3 r15 r25 false w0 H6 w27 K)))))))))))))))))
theorem w_O  (w0 : World) (K : Bool → WP) (h : m_O  w0 K) :
  Calls Tryz.prog 18 #[] w0 (fun e w' => ∃ r31 : Bool, e = .returned (vb r31) ∧ K r31 w') := by
 unfold m_O at h
 refine cw (args := []) Tryz.func18 Tryz.ntmps18 ?_
 have hs := Hst.start w0
 have hb := HB.nil None w0
 refine wpE_seq (rg (q0 (vb false) (wpL_nil (th_n (wpE_seq (rg ?_))))))
 refine sc Tryz.call27 (h.mono ?_)
 rintro e w1 ⟨r1, rfl, hk, h⟩
 refine ⟨_, rfl, ?_⟩
 obtain ⟨hs, hb⟩ := hk.hh hs hb
 refine q0 (vp r1) (wpL_nil (th_n (wpE_seq (rg (q0 (vp r1) ?_)))))
 refine sc Tryz.call20 (h.mono ?_)
 rintro e w2 ⟨r2, rfl, hk, h⟩
 refine ⟨_, rfl, ?_⟩
 obtain ⟨hs, hb⟩ := hk.hh hs hb
 refine q0 (vp r2) (wpL_nil (th_n (wpE_seq (wpE_seq ?_))))
 refine wpE_via (fun ρ wJ => ∃ b1'0 : Bool, ∃ HJ : NP, ((Option.isNone r1) = b1'0) ∧ Hst w0 None w2 HJ wJ ∧ HB HJ wJ [] ∧ Has ρ [(1, (vp r1)), (2, (vp r2)), (34, (vb (b1'0 || (Option.isNone r2))))]) ?_ ?_
 ·refine rg (q0 (vp r1) (q2 (vb (Option.isNone r1)) (x_ptreq (by kernel_rfl) rfl Tryz.underlying26) (q0 (vb (Option.isNone r1)) ?_)))
  rcases Bool.eq_false_or_eq_true (Option.isNone r1) with hg2 | hg2
  ·refine sk (yD 31 hg2) (sk (yD 31 hg2) (q2 (vb true) (xT hg2) (wpL_nil (th_n ?_))))
   exact ⟨true, _, hg2, hs, hb, hm⟩
  ·refine q1 (vp r2) (want1 rfl (yD 31 hg2)) (stp (v := (vb (Option.isNone r2))) (want1 rfl (yD 31 hg2)) (x_ptreq (by kernel_rfl) rfl Tryz.underlying55) (q2 (vb (Option.isNone r2)) (xF hg2) (wpL_nil (th_n ?_))))
   exact ⟨false, _, hg2, hs, hb, hm⟩
 ·rintro ρ w3 ⟨b1'0, H1, he0, hs, hb, hH⟩
  subst he0
  refine norm_has hH ?_
  refine th_n ?_
  refine wpE_cond (t := ((Option.isNone r1) || (Option.isNone r2))) (by kernel_rfl) (fun hc1 => ?_) (fun hc1 => ?_)
  ·have h := h.1 hc1
   refine wpE_seq (rg (q0 (vb false) (wpL_nil (th_n (wpE_ret (th_r ?_))))))
   have h := h H1 w3 hs
   have hs := hs.here
   refine rs1 Tryz.results18 (v := (vb false)) ?_
   exact ⟨false, rfl, h⟩
  ·have h := h.2 hc1
   refine wpE_skip (th_n (wpE_seq (rg (q0 (vp r1) ?_))))
   have h := h H1 w3 hs
   have hs := hs.here
   refine sc Tryz.call47 (h.mono ?_)
   rintro e w4 ⟨r3, r4, rfl, hk, h⟩
   refine ⟨_, rfl, ?_⟩
   obtain ⟨hs, hb⟩ := hk.hh hs hb
   refine q0 (.tuple #[(vi r3), (vi r4)]) (q0 (vi r3) (q0 (vi r4) (q0 (vi r3) (q0 (vi r4) (wpL_nil (th_n (wpE_seq (rg (q0 (vp r1) ?_)))))))))
   refine sc Tryz.call28 (h.mono ?_)
   rintro e w5 ⟨r5, r6, rfl, hk, h⟩
   refine ⟨_, rfl, ?_⟩
   obtain ⟨hs, hb⟩ := hk.hh hs hb
   refine q0 (.tuple #[(vi r5), (vi r6)]) (q0 (vi r5) (q0 (vi r6) (q0 (vi r5) (q0 (vi r6) (wpL_nil (th_n (wpE_seq (rg (q0 (vp r1) (q0 (vi r3) (q0 (vi r5) ?_)))))))))))
   refine sc Tryz.call29 (h.mono ?_)
   rintro e w6 ⟨r7, r8, rfl, hk, h⟩
   refine ⟨_, rfl, ?_⟩
   obtain ⟨hs, hb⟩ := hk.hh hs hb
   refine q0 (.tuple #[(vi r7), (vi r8)]) (q0 (vi r7) (q0 (vi r8) (q0 (vi r7) (q0 (vi r8) (wpL_nil (th_n (wpE_seq (rg (q0 (vp r1) (q0 (vi r7) ?_))))))))))
   refine sc Tryz.call48 (h.mono ?_)
   rintro e w7 ⟨r9, r10, rfl, hk, h⟩
   refine ⟨_, rfl, ?_⟩
   obtain ⟨hs, hb⟩ := hk.hh hs hb
   refine q0 (.tuple #[(vi r9), (vi r10)]) (q0 (vi r9) (q0 (vi r10) (q0 (vi r9) (q0 (vi r10) (wpL_nil (th_n (wpE_seq (rg (q0 (vp r1) (q0 (vi r3) ?_))))))))))
   refine sc Tryz.call49 (h.mono ?_)
   rintro e w8 ⟨r11, r12, rfl, hk, h⟩
   refine ⟨_, rfl, ?_⟩
   obtain ⟨hs, hb⟩ := hk.hh hs hb
   refine q0 (.tuple #[(vi r11), (vi r12)]) (q0 (vi r11) (q0 (vi r12) (q0 (vi r11) (q0 (vi r12) (wpL_nil (th_n (wpE_seq (rg (q0 (vp r1) ?_)))))))))
   refine sc Tryz.call50 (h.mono ?_)
   rintro e w9 ⟨r13, r14, rfl, hk, h⟩
   refine ⟨_, rfl, ?_⟩
   obtain ⟨hs, hb⟩ := hk.hh hs hb
   refine q0 (.tuple #[(vi r13), (vi r14)]) (q0 (vi r13) (q0 (vi r14) (q0 (vi r13) (q0 (vi r14) (wpL_nil (th_n (wpE_seq (rg (q0 (vp r1) (q0 (vi r3) ?_))))))))))
   refine sc Tryz.call48 (h.mono ?_)
   rintro e w10 ⟨r15, r16, rfl, hk, h⟩
   refine ⟨_, rfl, ?_⟩
   obtain ⟨hs, hb⟩ := hk.hh hs hb
   refine q0 (.tuple #[(vi r15), (vi r16)]) (q0 (vi r15) (q0 (vi r16) (q0 (vi r15) (q0 (vi r16) (wpL_nil (th_n (wpE_seq (rg (q0 (vp r2) (q0 (vi r9) ?_))))))))))
   refine sc Tryz.call23 (h.mono ?_)
   rintro e w11 ⟨r17, rfl, hk, h⟩
   refine ⟨_, rfl, ?_⟩
   obtain ⟨hs, hb⟩ := hk.hh hs hb
   refine q0 (vi r17) (wpL_nil (th_n (wpE_seq (rg (q0 (vp r2) (q0 (vi r11) ?_))))))
   refine sc Tryz.call51 (h.mono ?_)
   rintro e w12 ⟨r18, r19, rfl, hk, h⟩
   refine ⟨_, rfl, ?_⟩
   obtain ⟨hs, hb⟩ := hk.hh hs hb
   refine q0 (.tuple #[r18.v, (vb r19)]) (q0 r18.v (q0 (vb r19) (q0 r18.v (q0 (vb r19) (wpL_nil (th_n (wpE_seq (rg (q0 (vp r1) (q0 (vi r9) (st_new (O := (.cells #[(vi r9)] 30)) (fun p => (Sl.mk (some p) 1 1).v) (want0 rfl) (x_buildSlice (vs := #[(0, (vi r9))]) (by kernel_rfl) (by kernel_rfl)) ?_)))))))))))
   intro p1 w13 hn1
   have h := h p1 w13 hn1
   have hs := hs.again (Ext.new (F := None) hn1).keptP
   have hb := hb.kept (Ext.new (F := None) hn1).keptP
   refine q0 r18.v (q0 (vi r11) ?_)
   refine sc Tryz.call52 (h.mono ?_)
   rintro e w14 ⟨r20, r21, rfl, hk, h⟩
   refine ⟨_, rfl, ?_⟩
   obtain ⟨hs, hb⟩ := hk.hh hs hb
   refine q0 (.tuple #[(vi r20), (vi r21)]) (q0 (vi r20) (q0 (vi r21) (q0 (vi r20) (q0 (vi r21) (wpL_nil (th_n (wpE_seq (rg (q0 (vp r2) (q0 (vi r15) ?_))))))))))
   refine sc Tryz.call53 (h.mono ?_)
   rintro e w15 ⟨r22, rfl, hk, h⟩
   refine ⟨_, rfl, ?_⟩
   obtain ⟨hs, hb⟩ := hk.hh hs hb
   refine q0 (vb r22) (wpL_nil (th_n (wpE_seq (rg (q0 (vp r2) (q0 (vi r13) ?_))))))
   refine sc Tryz.call23 (h.mono ?_)
   rintro e w16 ⟨r23, rfl, hk, h⟩
   refine ⟨_, rfl, ?_⟩
   obtain ⟨hs, hb⟩ := hk.hh hs hb
   refine q0 (vi r23) (wpL_nil (th_n (wpE_seq (rg (q0 (vp r1) (q0 (vi r11) ?_))))))
   refine sc Tryz.call52 (h.mono ?_)
   rintro e w17 ⟨r24, r25, rfl, hk, h⟩
   refine ⟨_, rfl, ?_⟩
   obtain ⟨hs, hb⟩ := hk.hh hs hb
   refine q0 (.tuple #[(vi r24), (vi r25)]) (q0 (vi r24) (q0 (vi r25) (q0 (vi r24) (q0 (vi r25) (wpL_nil (th_n (wpE_seq (rg (q0 (vi r17) ?_)))))))))
   refine sc Tryz.call22 ((p_K1 r17 w17).mono ?_)
   rintro e w18 ⟨he, hE⟩
   refine ⟨(vi r17), he.trans (by kernel_rfl), ?_⟩
   have hs := hs.pure hE
   have hb := hb.pure hE
   refine q0 (vb (r17 == 0)) (q0 (vb (r17 == 0)) ?_)
   refine wpL_join 4 (fun ρ wJ => ∃ b2'0 : Bool, ∃ HJ : NP, ((r17 == 0) = b2'0) ∧ Hst w0 H1 w17 HJ wJ ∧ HB HJ wJ [] ∧ Has ρ [(2, (vp r2)), (3, (vi r3)), (15, (vi r15)), (18, r18.v), (19, (vb r19)), (20, (vi r20)), (22, (vb r22)), (25, (vi r25)), (112, (vb (b2'0 && (r23 == 0))))]) ?_ ?_
   ·rintro ρ w20 ⟨b2'0, H2, he0, hs, hb, hH⟩
    subst he0
    refine wpL_has hH ?_
    refine q0 (vb ((r17 == 0) && (r23 == 0))) ?_
    refine wpL_join 4 (fun ρ wJ => ∃ b3'0 : Bool, ∃ HJ : NP, (((r17 == 0) && (r23 == 0)) = b3'0) ∧ Hst w0 H1 w17 HJ wJ ∧ HB HJ wJ [] ∧ Has ρ [(2, (vp r2)), (3, (vi r3)), (15, (vi r15)), (19, (vb r19)), (20, (vi r20)), (22, (vb r22)), (25, (vi r25)), (117, (vb (b3'0 && (decide ((r18.len : Int) > 0)))))]) ?_ ?_
    ·rintro ρ w22 ⟨b3'0, H3, he0, hs, hb, hH⟩
     subst he0
     refine wpL_has hH ?_
     refine q0 (vb (((r17 == 0) && (r23 == 0)) && (decide ((r18.len : Int) > 0)))) ?_
     refine wpL_join 2 (fun ρ wJ => ∃ b4'0 : Bool, ∃ HJ : NP, ((((r17 == 0) && (r23 == 0)) && (decide ((r18.len : Int) > 0))) = b4'0) ∧ Hst w0 H1 w17 HJ wJ ∧ HB HJ wJ [] ∧ Has ρ [(2, (vp r2)), (3, (vi r3)), (15, (vi r15)), (20, (vi r20)), (22, (vb r22)), (25, (vi r25)), (120, (vb (b4'0 && r19)))]) ?_ ?_
     ·rintro ρ w23 ⟨b4'0, H4, he0, hs, hb, hH⟩
      subst he0
      refine wpL_has hH ?_
      refine q0 (vb ((((r17 == 0) && (r23 == 0)) && (decide ((r18.len : Int) > 0))) && r19)) ?_
      refine wpL_join 4 (fun ρ wJ => ∃ b5'0 y1 : Bool, ∃ HJ : NP, (((((r17 == 0) && (r23 == 0)) && (decide ((r18.len : Int) > 0))) && r19) = b5'0) ∧ (y1 = (b5'0 && (r20 == 0))) ∧ Hst w0 H1 w17 HJ wJ ∧ HB HJ wJ [] ∧ Has ρ [(2, (vp r2)), (3, (vi r3)), (15, (vi r15)), (22, (vb r22)), (25, (vi r25)), (125, (vb y1))]) ?_ ?_
      ·rintro ρ w25 ⟨b5'0, y1, H5, he0, hy1, hs, hb, hH⟩
       subst he0
       have h := h y1 hy1
       refine wpL_has hH ?_
       refine q0 (vb y1) ?_
       refine wpL_join 3 (fun ρ wJ => ∃ b6'0 : Bool, ∃ HJ : NP, (y1 = b6'0) ∧ Hst w0 H1 w17 HJ wJ ∧ HB HJ wJ [] ∧ Has ρ [(2, (vp r2)), (3, (vi r3)), (15, (vi r15)), (25, (vi r25)), (129, (vb (b6'0 && (!r22))))]) ?_ ?_
       ·rintro ρ w27 ⟨b6'0, H6, he0, hs, hb, hH⟩
        subst he0
        refine wpL_has hH ?_
        refine q0 (vb (y1 && (!r22))) ?_
        refine wpL_join 4 (fun ρ w => ∃ x1 : Bool, ∃ H : NP, Has ρ [(2, (vp r2)), (3, (vi r3)), (15, (vi r15)), (25, (vi r25)), (134, (vb x1))] ∧ Hst w0 H w H w ∧ HB H w [] ∧ m_O_j1 r2 r3 r15 r25 x1 w0 H w K) ?_ ?_
        ·rintro ρ w ⟨x1, H, hH, hs, hb, h⟩
         unfold m_O_j1 at h
         refine wpL_has hH ?_
         refine q0 (vb x1) ?_
         refine wpL_join 5 (fun ρ w => ∃ x2 : Bool, ∃ H : NP, Has ρ [(2, (vp r2)), (3, (vi r3)), (25, (vi r25)), (140, (vb x2))] ∧ Hst w0 H w H w ∧ HB H w [] ∧ m_O_j2 r2 r3 r25 x2 w0 H w K) ?_ ?_
         ·rintro ρ w ⟨x2, H, hH, hs, hb, h⟩
          unfold m_O_j2 at h
          refine wpL_has hH ?_
          refine q0 (vb x2) ?_
          refine wpL_join 4 (fun ρ w => ∃ x3 : Bool, ∃ H : NP, Has ρ [(2, (vp r2)), (25, (vi r25)), (145, (vb x3))] ∧ Hst w0 H w H w ∧ HB H w [] ∧ m_O_j3 r2 r25 x3 w0 H w K) ?_ ?_
          ·rintro ρ w ⟨x3, H, hH, hs, hb, h⟩
           unfold m_O_j3 at h
           refine wpL_has hH ?_
           refine q0 (vb x3) ?_
           refine wpL_join 3 (fun ρ wJ => ∃ b7'0 : Bool, ∃ HJ : NP, (x3 = b7'0) ∧ Hst w0 H w HJ wJ ∧ HB HJ wJ [] ∧ Has ρ [(2, (vp r2)), (149, (vb (b7'0 && (r25 == 0))))]) ?_ ?_
           ·rintro ρ w28 ⟨b7'0, H7, he0, hs, hb, hH⟩
            subst he0
            refine wpL_has hH ?_
            refine q0 (vb (x3 && (r25 == 0))) ?_
            refine wpL_join 5 (fun ρ w => ∃ x4 : Bool, ∃ H : NP, Has ρ [(2, (vp r2)), (155, (vb x4))] ∧ Hst w0 H w H w ∧ HB H w [] ∧ m_O_j4 r2 x4 w0 H w K) ?_ ?_
            ·rintro ρ w ⟨x4, H, hH, hs, hb, h⟩
             unfold m_O_j4 at h
             refine wpL_has hH ?_
             refine q0 (vb x4) ?_
             rcases Bool.eq_false_or_eq_true x4 with hg15 | hg15
             ·have h := h.1 hg15
              refine q1 (vp r2) (want1 rfl (yD 156 hg15)) ?_
              refine st_call (want1 rfl (yD 156 hg15)) (xc Tryz.call23) (h.mono ?_)
              rintro e w29 ⟨r26, rfl, hk, h⟩
              refine ⟨_, rfl, ?_⟩
              obtain ⟨hs, hb⟩ := hk.hh hs hb
              refine st_call (want1 rfl (yD 156 hg15)) (xc Tryz.call22) ((p_K1 r26 w29).mono ?_)
              rintro e w30 ⟨he, hE⟩
              refine ⟨(vi r26), he.trans (by kernel_rfl), ?_⟩
              have hs := hs.pure hE
              have hb := hb.pure hE
              refine q1 (vb (r26 == 51)) (want1 rfl (yD 156 hg15)) (q2 (vb (r26 == 51)) (xT hg15) (q0 (vb (r26 == 51)) (wpL_nil (th_n (wpE_ret ?_)))))
              have h := h w30 hs
              have hs := hs.here
              refine rs1 Tryz.results18 (v := (vb (r26 == 51))) ?_
              exact ⟨(r26 == 51), rfl, h⟩
             ·have h := h.2 hg15
              refine sk (yD 156 hg15) (sk (yD 156 hg15) (sk (yD 156 hg15) (sk (yD 156 hg15) (q2 (vb false) (xF hg15) (q0 (vb false) (wpL_nil (th_n (wpE_ret (rs1 Tryz.results18 (v := (vb false)) ?_)))))))))
              exact ⟨false, rfl, h⟩
            ·rcases Bool.eq_false_or_eq_true (x3 && (r25 == 0)) with hg16 | hg16
             ·have h := h.1 hg16
              refine q1 (vp r2) (want1 rfl (yD 150 hg16)) ?_
              have h := h H7 w28 hs
              have hs := hs.here
              refine st_call (want1 rfl (yD 150 hg16)) (xc Tryz.call55) (h.mono ?_)
              rintro e w31 ⟨r27, rfl, hk, h⟩
              refine ⟨_, rfl, ?_⟩
              obtain ⟨hs, hb⟩ := hk.hh hs hb
              refine q1 (vi (r27.len : Int)) (want1 rfl (yD 150 hg16)) (q1 (vb (((r27.len : Int) : Int) == 2)) (want1 rfl (yD 150 hg16)) (q2 (vb (((r27.len : Int) : Int) == 2)) (xT hg16) (wpL_nil ?_)))
              exact ⟨(((r27.len : Int) : Int) == 2), H7, hm, hs, hb, h⟩
             ·have h := h.2 hg16
              refine sk (yD 150 hg16) (sk (yD 150 hg16) (sk (yD 150 hg16) (sk (yD 150 hg16) (q2 (vb false) (xF hg16) (wpL_nil ?_)))))
              have h := h H7 w28 hs
              have hs := hs.here
              exact ⟨false, H7, hm, hs, hb, h⟩
           ·rcases Bool.eq_false_or_eq_true x3 with hg14 | hg14
            ·refine q1 (vi r25) (want1 rfl (yD 146 hg14)) (q1 (vb (r25 == 0)) (want1 rfl (yD 146 hg14)) (q2 (vb (r25 == 0)) (xT hg14) (wpL_nil ?_)))
             exact ⟨true, _, hg14, hs, hb, hm⟩
            ·refine sk (yD 146 hg14) (sk (yD 146 hg14) (q2 (vb false) (xF hg14) (wpL_nil ?_)))
             exact ⟨false, _, hg14, hs, hb, hm⟩
          ·rcases Bool.eq_false_or_eq_true x2 with hg17 | hg17
           ·have h := h.1 hg17
            refine q1 (vp r2) (want1 rfl (yD 141 hg17)) (q1 (vi r3) (want1 rfl (yD 141 hg17)) ?_)
            refine st_call (want1 rfl (yD 141 hg17)) (xc Tryz.call54) (h.mono ?_)
            rintro e w32 ⟨r28, rfl, hk, h⟩
            refine ⟨_, rfl, ?_⟩
            obtain ⟨hs, hb⟩ := hk.hh hs hb
            refine q2 (vb r28) (xT hg17) (wpL_nil ?_)
            exact ⟨r28, H, hm, hs, hb, h⟩
           ·have h := h.2 hg17
            refine sk (yD 141 hg17) (sk (yD 141 hg17) (sk (yD 141 hg17) (q2 (vb false) (xF hg17) (wpL_nil ?_))))
            exact ⟨false, H, hm, hs, hb, h⟩
         ·rcases Bool.eq_false_or_eq_true x1 with hg18 | hg18
          ·have h := h.1 hg18
           refine q1 (vp r2) (want1 rfl (yD 135 hg18)) (q1 (vi r15) (want1 rfl (yD 135 hg18)) ?_)
           refine st_call (want1 rfl (yD 135 hg18)) (xc Tryz.call54) (h.mono ?_)
           rintro e w33 ⟨r29, rfl, hk, h⟩
           refine ⟨_, rfl, ?_⟩
           obtain ⟨hs, hb⟩ := hk.hh hs hb
           refine q1 (vb (!r29)) (want1 rfl (yD 135 hg18)) (q2 (vb (!r29)) (xT hg18) (wpL_nil ?_))
           exact ⟨(!r29), H, hm, hs, hb, h⟩
          ·have h := h.2 hg18
           refine sk (yD 135 hg18) (sk (yD 135 hg18) (sk (yD 135 hg18) (sk (yD 135 hg18) (q2 (vb false) (xF hg18) (wpL_nil ?_)))))
           exact ⟨false, H, hm, hs, hb, h⟩
        ·rcases Bool.eq_false_or_eq_true (y1 && (!r22)) with hg19 | hg19
         ·have h := h.1 hg19
          refine q1 (vp r2) (want1 rfl (yD 130 hg19)) (q1 (vi r15) (want1 rfl (yD 130 hg19)) ?_)
          have h := h H6 w27 hs
          have hs := hs.here
          refine st_call (want1 rfl (yD 130 hg19)) (xc Tryz.call53) (h.mono ?_)
          rintro e w34 ⟨r30, rfl, hk, h⟩
          refine ⟨_, rfl, ?_⟩
          obtain ⟨hs, hb⟩ := hk.hh hs hb
          refine q2 (vb r30) (xT hg19) (wpL_nil ?_)
          exact ⟨r30, H6, hm, hs, hb, h⟩
         ·have h := h.2 hg19
          refine sk (yD 130 hg19) (sk (yD 130 hg19) (sk (yD 130 hg19) (q2 (vb false) (xF hg19) (wpL_nil ?_))))
          have h := h H6 w27 hs
          have hs := hs.here
          exact ⟨false, H6, hm, hs, hb, h⟩
       ·rcases Bool.eq_false_or_eq_true y1 with hg12 | hg12
        ·refine q1 (vb r22) (want1 rfl (yD 126 hg12)) (q1 (vb (!r22)) (want1 rfl (yD 126 hg12)) (q2 (vb (!r22)) (xT hg12) (wpL_nil ?_)))
         exact ⟨true, _, hg12, hs, hb, hm⟩
        ·refine sk (yD 126 hg12) (sk (yD 126 hg12) (q2 (vb false) (xF hg12) (wpL_nil ?_)))
         exact ⟨false, _, hg12, hs, hb, hm⟩
      ·rcases Bool.eq_false_or_eq_true ((((r17 == 0) && (r23 == 0)) && (decide ((r18.len : Int) > 0))) && r19) with hg10 | hg10
       ·refine q1 (vi r20) (want1 rfl (yD 121 hg10)) ?_
        refine st_call (want1 rfl (yD 121 hg10)) (xc Tryz.call22) ((p_K1 r20 w23).mono ?_)
        rintro e w26 ⟨he, hE⟩
        refine ⟨(vi r20), he.trans (by kernel_rfl), ?_⟩
        have hs := hs.pure hE
        have hb := hb.pure hE
        refine q1 (vb (r20 == 0)) (want1 rfl (yD 121 hg10)) (q2 (vb (r20 == 0)) (xT hg10) (wpL_nil ?_))
        exact ⟨true, _, _, hg10, rfl, hs, hb, hm⟩
       ·refine sk (yD 121 hg10) (sk (yD 121 hg10) (sk (yD 121 hg10) (q2 (vb false) (xF hg10) (wpL_nil ?_))))
        exact ⟨false, _, _, hg10, rfl, hs, hb, hm⟩
     ·rcases Bool.eq_false_or_eq_true (((r17 == 0) && (r23 == 0)) && (decide ((r18.len : Int) > 0))) with hg8 | hg8
      ·refine q1 (vb r19) (want1 rfl (yD 118 hg8)) (q2 (vb r19) (xT hg8) (wpL_nil ?_))
       exact ⟨true, _, hg8, hs, hb, hm⟩
      ·refine sk (yD 118 hg8) (q2 (vb false) (xF hg8) (wpL_nil ?_))
       exact ⟨false, _, hg8, hs, hb, hm⟩
    ·rcases Bool.eq_false_or_eq_true ((r17 == 0) && (r23 == 0)) with hg6 | hg6
     ·refine q1 r18.v (want1 rfl (yD 113 hg6)) (q1 (vi (r18.len : Int)) (want1 rfl (yD 113 hg6)) (q1 (vb (decide ((r18.len : Int) > 0))) (want1 rfl (yD 113 hg6)) (q2 (vb (decide ((r18.len : Int) > 0))) (xT hg6) (wpL_nil ?_))))
      exact ⟨true, _, hg6, hs, hb, hm⟩
     ·refine sk (yD 113 hg6) (sk (yD 113 hg6) (sk (yD 113 hg6) (q2 (vb false) (xF hg6) (wpL_nil ?_))))
      exact ⟨false, _, hg6, hs, hb, hm⟩
   ·rcases Bool.eq_false_or_eq_true (r17 == 0) with hg4 | hg4
    ·refine q1 (vi r23) (want1 rfl (yD 108 hg4)) ?_
     refine st_call (want1 rfl (yD 108 hg4)) (xc Tryz.call22) ((p_K1 r23 w18).mono ?_)
     rintro e w21 ⟨he, hE⟩
     refine ⟨(vi r23), he.trans (by kernel_rfl), ?_⟩
     have hs := hs.pure hE
     have hb := hb.pure hE
     refine q1 (vb (r23 == 0)) (want1 rfl (yD 108 hg4)) (q2 (vb (r23 == 0)) (xT hg4) (wpL_nil ?_))
     exact ⟨true, _, hg4, hs, hb, hm⟩
    ·refine sk (yD 108 hg4) (sk (yD 108 hg4) (sk (yD 108 hg4) (q2 (vb false) (xF hg4) (wpL_nil ?_))))
     exact ⟨false, _, hg4, hs, hb, hm⟩
def m_L1_l1 (l1 : Sl) (r1 : Option Addr) (r2 : Option Addr) (out1 : Sl) (i1 : Int) (w0 : World) (Hl1 : NP) (wl1 : World) (Kc1 : Sl → Int → NP → WP) (K : (Option Addr) → (Option Addr) → Sl → Bool → WP) : Prop :=
 Br (decide (i1 < (l1.len : Int)))
  (∃ a1 : Addr, At l1 i1 6 a1 ∧
  ∃ aA aB : Int, ∃ aC aD : Int, ∃ aE : ByteArray, ∃ aF : Sl, Row wl1 a1 [(vi aA), (vi aB), (vi aC), (vu aD), (vs aE), aF.v] ∧
  Calls Tryz.prog 32 #[(vp r1), (.agg #[(vi aA), (vi aB), (vi aC), (vu aD), (vs aE), aF.v])] wl1 (fun e w3 => ∃ r3 r4 : Int, e = .returned (.tuple #[(vi r3), (vi r4)]) ∧ 
   Kept Hl1 wl1 w3 ∧
   ∃ a2 : Addr, At l1 i1 6 a2 ∧
   ∃ aG aH : Int, ∃ aI aJ : Int, ∃ aK : ByteArray, ∃ aL : Sl, Row w3 a2 [(vi aG), (vi aH), (vi aI), (vu aJ), (vs aK), aL.v] ∧
   Calls Tryz.prog 34 #[(vp r2), (.agg #[(vi aG), (vi aH), (vi aI), (vu aJ), (vs aK), aL.v])] w3 (fun e w4 => ∃ r5 r6 : Int, e = .returned (.tuple #[(vi r5), (vi r6)]) ∧ 
    Kept Hl1 w3 w4 ∧
    Br ((r4 != r6) || (r3 != r5))
     (∀ (H1 : NP) (w6 : World), Hst w0 Hl1 w4 H1 w6 →
     K none none Sl.nil false w6)
     (∀ (H1 : NP) (w6 : World), Hst w0 Hl1 w4 H1 w6 →
     ∀ (p1 : Addr) (w8 : World), New w6 (.cells #[(vi r5)] 30) p1 w8 →
     ∃ s1 : Sl, ∃ w9 : World, (Builtin.append_ #[52, 52] 52 #[out1.v, (Sl.mk (some p1) 1 1).v]).run Tryz.prog w8 = .ok s1.v w9 ∧
     Kept H1 w8 w9 ∧
     Kc1 s1 (q6.wrap (i1 + 1)) H1 w9))))
  (K r1 r2 out1 true wl1)
def m_L1 (l1 : Sl) (w0 : World) (K : (Option Addr) → (Option Addr) → Sl → Bool → WP) : Prop :=
 Calls Tryz.prog 27 #[] w0 (fun e w1 => ∃ r1 : Option Addr, e = .returned (vp r1) ∧ 
  Kept None w0 w1 ∧
  Calls Tryz.prog 31 #[] w1 (fun e w2 => ∃ r2 : Option Addr, e = .returned (vp r2) ∧ 
   Kept None w1 w2 ∧
   Br (Option.isNone r1)
    (K none none Sl.nil false w2)
    (∃ (I1 : Sl → Int → NP → WP) (mu1 : Sl → Int → World → Nat), I1 Sl.nil 0 None w2 ∧
     ∀ (out1 : Sl) (i1 : Int) (Hl1 : NP) (wl1 : World), Hst w0 Hl1 wl1 Hl1 wl1 → I1 out1 i1 Hl1 wl1 → m_L1_l1 l1 r1 r2 out1 i1 w0 Hl1 wl1 (fun y'0 y'1 H' w' => I1 y'0 y'1 H' w' ∧ mu1 y'0 y'1 w' < mu1 out1 i1 wl1) K)))
theorem w_L1 (l1 : Sl) (w0 : World) (K : (Option Addr) → (Option Addr) → Sl → Bool → WP) (h : m_L1 l1 w0 K) :
  Calls Tryz.prog 19 #[l1.v] w0 (fun e w' => ∃ r7 : Option Addr, ∃ r8 : Option Addr, ∃ r9 : Sl, ∃ r10 : Bool, e = .returned (.tuple #[(vp r7), (vp r8), r9.v, (vb r10)]) ∧ K r7 r8 r9 r10 w') := by
 unfold m_L1 at h
 refine cw (args := [l1.v]) Tryz.func19 Tryz.ntmps19 ?_
 have hs := Hst.start w0
 have hb := HB.nil None w0
 refine wpE_seq (rg (q0 (vp none) (q0 (vp none) (q0 Sl.nil.v (q0 (vb false) (wpL_nil (th_n (wpE_seq (rg ?_)))))))))
 refine sc Tryz.call27 (h.mono ?_)
 rintro e w1 ⟨r1, rfl, hk, h⟩
 refine ⟨_, rfl, ?_⟩
 obtain ⟨hs, hb⟩ := hk.hh hs hb
 refine q0 (vp r1) (wpL_nil (th_n (wpE_seq (rg ?_))))
 refine sc Tryz.call31 (h.mono ?_)
 rintro e w2 ⟨r2, rfl, hk, h⟩
 refine ⟨_, rfl, ?_⟩
 obtain ⟨hs, hb⟩ := hk.hh hs hb
 refine q0 (vp r2) (wpL_nil (th_n (wpE_seq (wpE_seq (rg (q0 (vp r1) (q2 (vb (Option.isNone r1)) (x_ptreq (by kernel_rfl) rfl Tryz.underlying26) (wpL_nil (th_n ?_)))))))))
 refine wpE_cond (t := (Option.isNone r1)) (by kernel_rfl) (fun hc1 => ?_) (fun hc1 => ?_)
 ·have h := h.1 hc1
  refine wpE_seq (rg (q0 (vp none) (q0 (vp none) (q0 Sl.nil.v (q0 (vb false) (wpL_nil (th_n (wpE_ret (th_r (res4 (.inl rfl) Tryz.results19 (v := (vp none)) (by kernel_rfl) (v' := (vp none)) (by kernel_rfl) (v'' := Sl.nil.v) (by kernel_rfl) (v3 := (vb false)) (by kernel_rfl) ?_))))))))))
  exact ⟨none, none, Sl.nil, false, rfl, h⟩
 ·have h := h.2 hc1
  refine wpE_skip (th_n (wpE_seq (rg (q0 Sl.nil.v (wpL_nil (th_n (wpE_seq (wpE_seq (rg (q0 (vi 0) (wpL_nil ?_)))))))))))
  refine th_n (wpE_block ?_)
  obtain ⟨I1, mu1, h0, hr⟩ := h
  refine wpE_loop (σ := Sl × Int × NP × World) (fun s ρ w => w = s.2.2.2 ∧ Has ρ [(0, l1.v), (6, (vp r1)), (7, (vp r2)), (8, s.1.v), (9, (vi s.2.1))] ∧ Hst w0 s.2.2.1 w s.2.2.1 w ∧ HB s.2.2.1 w [] ∧ I1 s.1 s.2.1 s.2.2.1 s.2.2.2) (fun s => mu1 s.1 s.2.1 s.2.2.2) (Sl.nil, 0, None, w2) ⟨rfl, hm, hs, hb, h0⟩ ?_
  rintro ⟨out1, i1, Hl1, wl1⟩ ρ w ⟨hw, hH, hs, hb, hI⟩
  obtain rfl : wl1 = w := (show w = wl1 from hw).symm
  have hH : Has ρ [(0, l1.v), (6, (vp r1)), (7, (vp r2)), (8, out1.v), (9, (vi i1))] := hH
  have hs : Hst w0 Hl1 wl1 Hl1 wl1 := hs
  have hb : HB Hl1 wl1 [] := hb
  have h := hr out1 i1 Hl1 wl1 hs hI
  unfold m_L1_l1 at h
  refine wpE_has hH ?_
  refine wpE_seq (wpE_seq (rg (q0 (vi i1) (q0 l1.v (q0 (vi (l1.len : Int)) (q0 (vb (decide (i1 < (l1.len : Int)))) (wpL_nil (th_n ?_))))))))
  refine wpE_cond (t := (decide (i1 < (l1.len : Int)))) (by kernel_rfl) (fun hc2 => ?_) (fun hc2 => ?_)
  ·have h := h.1 hc2
   refine wpE_skip (th_n (wpE_seq (wpE_block (wpE_seq (rg (q0 (vp r1) (q0 l1.v (q0 (vi i1) ?_))))))))
   obtain ⟨a1, hv5, h⟩ := h
   refine q2 (vp (some a1)) (xi (Tryz.runUnderlying22 _) (Tryz.sizeOf49 _) hv5) ?_
   obtain ⟨aA, aB, aC, aD, aE, aF, hv4, h⟩ := h
   refine q2 (.agg #[(vi aA), (vi aB), (vi aC), (vu aD), (vs aE), aF.v]) (x_loadA (a := a1) (vs := [(vi aA), (vi aB), (vi aC), (vu aD), (vs aE), aF.v]) (by kernel_rfl) (Tryz.isAgg49 _) (Tryz.sizeOf49 _) rfl hv4) ?_
   refine sc Tryz.call32 (h.mono ?_)
   rintro e w3 ⟨r3, r4, rfl, hk, h⟩
   refine ⟨_, rfl, ?_⟩
   obtain ⟨hs, hb⟩ := hk.hh hs hb
   refine q0 (.tuple #[(vi r3), (vi r4)]) (q0 (vi r3) (q0 (vi r4) (q0 (vi r3) (q0 (vi r4) (wpL_nil (th_n (wpE_seq (rg (q0 (vp r2) (q0 l1.v (q0 (vi i1) ?_)))))))))))
   obtain ⟨a2, hv3, h⟩ := h
   refine q2 (vp (some a2)) (xi (Tryz.runUnderlying22 _) (Tryz.sizeOf49 _) hv3) ?_
   obtain ⟨aG, aH, aI, aJ, aK, aL, hv2, h⟩ := h
   refine q2 (.agg #[(vi aG), (vi aH), (vi aI), (vu aJ), (vs aK), aL.v]) (x_loadA (a := a2) (vs := [(vi aG), (vi aH), (vi aI), (vu aJ), (vs aK), aL.v]) (by kernel_rfl) (Tryz.isAgg49 _) (Tryz.sizeOf49 _) rfl hv2) ?_
   refine sc Tryz.call34 (h.mono ?_)
   rintro e w4 ⟨r5, r6, rfl, hk, h⟩
   refine ⟨_, rfl, ?_⟩
   obtain ⟨hs, hb⟩ := hk.hh hs hb
   refine q0 (.tuple #[(vi r5), (vi r6)]) (q0 (vi r5) (q0 (vi r6) (q0 (vi r5) (q0 (vi r6) (wpL_nil (th_n (wpE_seq (wpE_seq ?_))))))))
   refine wpE_via (fun ρ wJ => ∃ b1'0 : Bool, ∃ HJ : NP, ((r4 != r6) = b1'0) ∧ Hst w0 Hl1 w4 HJ wJ ∧ HB HJ wJ [] ∧ Has ρ [(0, l1.v), (6, (vp r1)), (7, (vp r2)), (8, out1.v), (9, (vi i1)), (12, (vi r5)), (50, (vb (b1'0 || (r3 != r5))))]) ?_ ?_
   ·refine rg (q0 (vi r4) ?_)
    refine sc Tryz.call22 ((p_K1 r4 w4).mono ?_)
    rintro e w7 ⟨he, hE⟩
    refine ⟨(vi r4), he.trans (by kernel_rfl), ?_⟩
    have hs := hs.pure hE
    have hb := hb.pure hE
    refine q0 (vi r6) (q0 (vb (r4 != r6)) (q0 (vb (r4 != r6)) ?_))
    rcases Bool.eq_false_or_eq_true (r4 != r6) with hg2 | hg2
    ·refine sk (yD 46 hg2) (sk (yD 46 hg2) (sk (yD 46 hg2) (q2 (vb true) (xT hg2) (wpL_nil (th_n ?_)))))
     exact ⟨true, _, hg2, hs, hb, hm⟩
    ·refine q1 (vi r3) (want1 rfl (yD 46 hg2)) (q1 (vi r5) (want1 rfl (yD 46 hg2)) (q1 (vb (r3 != r5)) (want1 rfl (yD 46 hg2)) (q2 (vb (r3 != r5)) (xF hg2) (wpL_nil (th_n ?_)))))
     exact ⟨false, _, hg2, hs, hb, hm⟩
   ·rintro ρ w6 ⟨b1'0, H1, he0, hs, hb, hH⟩
    subst he0
    refine norm_has hH ?_
    refine th_n ?_
    refine wpE_cond (t := ((r4 != r6) || (r3 != r5))) (by kernel_rfl) (fun hc3 => ?_) (fun hc3 => ?_)
    ·have h := h.1 hc3
     refine wpE_seq (rg (q0 (vp none) (q0 (vp none) (q0 Sl.nil.v (q0 (vb false) (wpL_nil (th_n (wpE_ret (th_r (bl_r (th_r ?_)))))))))))
     refine th_r (bl_r (th_r ?_))
     have h := h H1 w6 hs
     have hs := hs.here
     refine res4 (.inl rfl) Tryz.results19 (v := (vp none)) (by kernel_rfl) (v' := (vp none)) (by kernel_rfl) (v'' := Sl.nil.v) (by kernel_rfl) (v3 := (vb false)) (by kernel_rfl) ?_
     exact ⟨none, none, Sl.nil, false, rfl, h⟩
    ·have h := h.2 hc3
     refine wpE_skip (th_n (rg (q0 out1.v (q0 (vi r5) ?_))))
     have h := h H1 w6 hs
     have hs := hs.here
     refine st_new (O := (.cells #[(vi r5)] 30)) (fun p => (Sl.mk (some p) 1 1).v) (want0 rfl) (x_buildSlice (vs := #[(0, (vi r5))]) (by kernel_rfl) (by kernel_rfl)) ?_
     intro p1 w8 hn1
     have h := h p1 w8 hn1
     have hs := hs.again (Ext.new (F := None) hn1).keptP
     have hb := hb.kept (Ext.new (F := None) hn1).keptP
     obtain ⟨s1, w9, hv1, hk, h⟩ := h
     refine st (v := s1.v) (want0 rfl) (x_builtin (args := #[out1.v, (Sl.mk (some p1) 1 1).v]) (by kernel_rfl) (fun _ => rfl) hv1) ?_
     obtain ⟨hs, hb⟩ := hk.hh hs hb
     refine q0 s1.v (wpL_nil (bl_n (th_n (rg (q0 (vi i1) (q0 (vi (q6.wrap (i1 + 1))) (q0 (vi (q6.wrap (i1 + 1))) (wpL_nil (th_n ?_)))))))))
     exact ⟨(s1, (q6.wrap (i1 + 1)), H1, w9), ⟨rfl, hm, hs, hb, h.1⟩, h.2⟩
  ·have h := h.2 hc2
   refine wpE_exit (th_x (th_x (bl_eq (th_n (wpE_seq (rg (q0 (vp r1) (q0 (vp r2) (q0 out1.v (q0 (vp r1) (q0 (vp r2) ?_)))))))))))
   refine q0 out1.v (q0 (vb true) (wpL_nil (th_n (wpE_ret (res4 (.inl rfl) Tryz.results19 (v := (vp r1)) (by kernel_rfl) (v' := (vp r2)) (by kernel_rfl) (v'' := out1.v) (by kernel_rfl) (v3 := (vb true)) (by kernel_rfl) ?_)))))
   exact ⟨r1, r2, out1, true, rfl, h⟩
theorem eqt_law08_tells_neq_4 (a0 b0 : Bool) (w : World) : (Go.binOp .neq 4 (.bool a0) (.bool b0)).run Tryz.prog w = .ok (.bool (!(a0 == b0))) w := by
 simp [Go.binOp, Op.equal, Op.maxDepth, go_sem, streq, bne]
def m_H_j6 (t1 : Int) (r4 x3 : Bool) (r5 x4 : Bool) (w0 : World) (H : NP) (w : World) (Kc4 : Int → NP → WP) (K : Bool → WP) : Prop :=
 Br ((!(r4 == x3)) || (!(r5 == x4)))
  (∀ (H4 : NP) (w11 : World), Hst w0 H w H4 w11 →
  K false w11)
  (∀ (H4 : NP) (w11 : World), Hst w0 H w H4 w11 →
  Kc4 (q6.wrap (t1 + 1)) H4 w11)
def m_H_j5 (k1 : Option Addr) (x1 : Option Addr) (r3 : Sl) (t1 : Int) (r4 x3 : Bool) (w0 : World) (H : NP) (w : World) (Kc4 : Int → NP → WP) (K : Bool → WP) : Prop :=
 Br (!(r4 == x3))
  (K false w)
  (Calls Tryz.prog 54 #[(vp k1), (vi t1)] w (fun e w10 => ∃ r5 : Bool, e = .returned (vb r5) ∧ 
   Kept H w w10 ∧
   Br ((decide (t1 ≥ 1)) && (decide (t1 < (r3.len : Int))))
    (Calls Tryz.prog 64 #[(vp x1)] w10 (fun e w12 => ∃ r6 : Sl, e = .returned r6.v ∧ 
     Kept H w10 w12 ∧
     Calls Tryz.prog 61 #[r6.v, (vi t1)] w12 (fun e w13 => ∃ r7 : Bool, e = .returned (vb r7) ∧ 
      Kept H w12 w13 ∧
      m_H_j6 t1 r4 x3 r5 r7 w0 H w13 Kc4 K)))
    (m_H_j6 t1 r4 x3 r5 false w0 H w10 Kc4 K)))
def m_H_l4 (k1 : Option Addr) (x1 : Option Addr) (r3 : Sl) (t1 : Int) (w0 : World) (Hl3 : NP) (wl3 : World) (Kc4 : Int → NP → WP) (K : Bool → WP) : Prop :=
 ∃ a3 : Addr, x1 = some a3 ∧
 ∃ v1 : Option Addr, wl3.cell? a3 = some (vp v1) ∧
 ∃ a4 : Addr, v1 = some a4 ∧
 ∃ v2 : Sl, wl3.cell? a4 = some v2.v ∧
 Br (decide (t1 ≤ (q6.wrap ((v2.len : Int) + 1))))
  (∀ (H2 : NP) (w7 : World), Hst w0 Hl3 wl3 H2 w7 →
  Calls Tryz.prog 53 #[(vp k1), (vi t1)] w7 (fun e w9 => ∃ r4 : Bool, e = .returned (vb r4) ∧ 
   Kept H2 w7 w9 ∧
   Br ((decide (t1 ≥ 1)) && (decide (t1 < (r3.len : Int))))
    (∃ a5 : Addr, At r3 t1 1 a5 ∧
    ∃ v3 : Bool, w9.cell? a5 = some (vb v3) ∧
    m_H_j5 k1 x1 r3 t1 r4 v3 w0 H2 w9 Kc4 K)
    (m_H_j5 k1 x1 r3 t1 r4 false w0 H2 w9 Kc4 K)))
  (∃ C1 : WP, C1 wl3.drew ∧ ∀ w14, w14 = wl3.drew →
  ∃ a6 : Addr, x1 = some a6 ∧
  ∃ v4 : Sl, (∀ w', C1 w' → w'.cell? (a6.add 1) = some v4.v) ∧
  Calls Tryz.prog 55 #[(vp k1)] w14 (fun e w15 => ∃ r8 : Sl, e = .returned r8.v ∧ C1 w15 ∧ 
   Kept Hl3 w14 w15 ∧
   Calls Tryz.prog 63 #[r8.v, v4.v] w15 (fun e w16 => ∃ r9 : Bool, e = .returned (vb r9) ∧ C1 w16 ∧ 
    Kept Hl3 w15 w16 ∧
    K r9 w16)))
def m_H_l3 (k1 : Option Addr) (x1 : Option Addr) (r2 : Sl) (i2 : Int) (w0 : World) (Hl2 : NP) (wl2 : World) (Kc3 : Int → NP → WP) (K : Bool → WP) : Prop :=
 Br (decide (i2 < (r2.len : Int)))
  (∃ a2 : Addr, At r2 i2 1 a2 ∧
  CanW wl2 a2 ∧ ¬ Hl2 a2.block ∧ ∀ w4 : World, w4 = wl2.setCell a2 (vi (-9)) →
  Kc3 (q6.wrap (i2 + 1)) Hl2 w4)
  (Calls Tryz.prog 65 #[(vp x1)] wl2 (fun e w5 => ∃ r3 : Sl, e = .returned r3.v ∧ 
   Kept Hl2 wl2 w5 ∧
   ∃ (I3 : Int → NP → WP) (mu3 : Int → World → Nat), I3 (-1) Hl2 w5 ∧
    ∀ (t1 : Int) (Hl3 : NP) (wl3 : World), Hst w0 Hl3 wl3 Hl3 wl3 → I3 t1 Hl3 wl3 → m_H_l4 k1 x1 r3 t1 w0 Hl3 wl3 (fun y'0 H' w' => I3 y'0 H' w' ∧ mu3 y'0 w' < mu3 t1 wl3) K))
def m_H_l2 (k1 : Option Addr) (x1 : Option Addr) (r1 r2 : Sl) (i1 : Int) (w0 : World) (Hl1 : NP) (wl1 : World) (Kc2 : Int → NP → WP) (K : Bool → WP) : Prop :=
 Br (decide (i1 < (r1.len : Int)))
  (∃ a1 : Addr, At r1 i1 1 a1 ∧
  CanW wl1 a1 ∧ ¬ Hl1 a1.block ∧ ∀ w3 : World, w3 = wl1.setCell a1 (vi (-9)) →
  Kc2 (q6.wrap (i1 + 1)) Hl1 w3)
  (∃ (I2 : Int → NP → WP) (mu2 : Int → World → Nat), I2 0 Hl1 wl1 ∧
   ∀ (i2 : Int) (Hl2 : NP) (wl2 : World), Hst w0 Hl2 wl2 Hl2 wl2 → I2 i2 Hl2 wl2 → m_H_l3 k1 x1 r2 i2 w0 Hl2 wl2 (fun y'0 H' w' => I2 y'0 H' w' ∧ mu2 y'0 w' < mu2 i2 wl2) K)
def m_H_j1 (k1 : Option Addr) (x1 : Option Addr) (r1 r2 : Sl) (x2 : Bool) (w0 : World) (H : NP) (w : World) (K : Bool → WP) : Prop :=
 Br x2
  (K false w)
  (∃ (I1 : Int → NP → WP) (mu1 : Int → World → Nat), I1 0 H w ∧
   ∀ (i1 : Int) (Hl1 : NP) (wl1 : World), Hst w0 Hl1 wl1 Hl1 wl1 → I1 i1 Hl1 wl1 → m_H_l2 k1 x1 r1 r2 i1 w0 Hl1 wl1 (fun y'0 H' w' => I1 y'0 H' w' ∧ mu1 y'0 w' < mu1 i1 wl1) K)
def m_H (k1 : Option Addr) (x1 : Option Addr) (w0 : World) (K : Bool → WP) : Prop :=
 Calls Tryz.prog 55 #[(vp k1)] w0 (fun e w1 => ∃ r1 : Sl, e = .returned r1.v ∧ 
  Kept None w0 w1 ∧
  Calls Tryz.prog 62 #[(vp k1)] w1 (fun e w2 => ∃ r2 : Sl, e = .returned r2.v ∧ 
   Kept None w1 w2 ∧
   ∃ a7 : Addr, x1 = some a7 ∧
   ∃ v5 : Sl, w2.cell? (a7.add 1) = some v5.v ∧
   Calls Tryz.prog 63 #[r1.v, v5.v] w2 (fun e w17 => ∃ r10 : Bool, e = .returned (vb r10) ∧ 
    Kept None w2 w17 ∧
    Br (!r10)
     (m_H_j1 k1 x1 r1 r2 true w0 None w17 K)
     (Calls Tryz.prog 64 #[(vp x1)] w17 (fun e w18 => ∃ r11 : Sl, e = .returned r11.v ∧ 
      Kept None w17 w18 ∧
      Calls Tryz.prog 63 #[r2.v, r11.v] w18 (fun e w19 => ∃ r12 : Bool, e = .returned (vb r12) ∧ 
       Kept None w18 w19 ∧
       m_H_j1 k1 x1 r1 r2 (!r12) w0 None w19 K))))))
theorem w_H (k1 : Option Addr) (x1 : Option Addr) (w0 : World) (K : Bool → WP) (h : m_H k1 x1 w0 K) :
  Calls Tryz.prog 25 #[(vp k1), (vp x1)] w0 (fun e w' => ∃ r13 : Bool, e = .returned (vb r13) ∧ K r13 w') := by
 unfold m_H at h
 refine cw (args := [(vp k1), (vp x1)]) Tryz.func25 Tryz.ntmps25 ?_
 have hs := Hst.start w0
 have hb := HB.nil None w0
 refine wpE_seq (rg (q0 (vb false) (wpL_nil (th_n (wpE_seq (rg (q0 (vp k1) ?_)))))))
 refine sc Tryz.call55 (h.mono ?_)
 rintro e w1 ⟨r1, rfl, hk, h⟩
 refine ⟨_, rfl, ?_⟩
 obtain ⟨hs, hb⟩ := hk.hh hs hb
 refine q0 (vp k1) ?_
 refine sc Tryz.call62 (h.mono ?_)
 rintro e w2 ⟨r2, rfl, hk, h⟩
 refine ⟨_, rfl, ?_⟩
 obtain ⟨hs, hb⟩ := hk.hh hs hb
 refine q0 r1.v (q0 r2.v (wpL_nil (th_n (wpE_seq (wpE_seq ?_)))))
 refine wpE_joinT (fun ρ w => ∃ x2 : Bool, ∃ H : NP, Has ρ [(0, (vp k1)), (1, (vp x1)), (5, r1.v), (6, r2.v), (29, (vb x2))] ∧ Hst w0 H w H w ∧ HB H w [] ∧ m_H_j1 k1 x1 r1 r2 x2 w0 H w K) ?_ ?_
 ·rintro ρ w ⟨x2, H, hH, hs, hb, h⟩
  unfold m_H_j1 at h
  refine wpE_has hH ?_
  refine wpE_cond (t := x2) (by kernel_rfl) (fun hc1 => ?_) (fun hc1 => ?_)
  ·have h := h.1 hc1
   refine wpE_seq (rg (q0 (vb false) (wpL_nil (th_n (wpE_ret (th_r (rs1 Tryz.results25 (v := (vb false)) ?_)))))))
   exact ⟨false, rfl, h⟩
  ·have h := h.2 hc1
   refine wpE_skip (th_n (wpE_seq (wpE_seq (rg (q0 (vi 0) (wpL_nil (th_n (wpE_block ?_))))))))
   obtain ⟨I1, mu1, h0, hr⟩ := h
   refine wpE_loop (σ := Int × NP × World) (fun s ρ w => w = s.2.2 ∧ Has ρ [(0, (vp k1)), (1, (vp x1)), (5, r1.v), (6, r2.v), (7, (vi s.1))] ∧ Hst w0 s.2.1 w s.2.1 w ∧ HB s.2.1 w [] ∧ I1 s.1 s.2.1 s.2.2) (fun s => mu1 s.1 s.2.2) (0, H, w) ⟨rfl, hm, hs, hb, h0⟩ ?_
   rintro ⟨i1, Hl1, wl1⟩ ρ w ⟨hw, hH, hs, hb, hI⟩
   obtain rfl : wl1 = w := (show w = wl1 from hw).symm
   have hH : Has ρ [(0, (vp k1)), (1, (vp x1)), (5, r1.v), (6, r2.v), (7, (vi i1))] := hH
   have hs : Hst w0 Hl1 wl1 Hl1 wl1 := hs
   have hb : HB Hl1 wl1 [] := hb
   have h := hr i1 Hl1 wl1 hs hI
   unfold m_H_l2 at h
   refine wpE_has hH ?_
   refine wpE_seq (wpE_seq (rg (q0 (vi i1) (q0 r1.v (q0 (vi (r1.len : Int)) (q0 (vb (decide (i1 < (r1.len : Int)))) (wpL_nil (th_n ?_))))))))
   refine wpE_cond (t := (decide (i1 < (r1.len : Int)))) (by kernel_rfl) (fun hc2 => ?_) (fun hc2 => ?_)
   ·have h := h.1 hc2
    refine wpE_skip (th_n (wpE_seq (wpE_block (rg (q0 r1.v (q0 (vi i1) ?_))))))
    obtain ⟨a1, hv1, h⟩ := h
    refine q2 (vp (some a1)) (xi (Tryz.runUnderlying52 _) (Tryz.sizeOf30 _) hv1) ?_
    obtain ⟨hp1, hnh, h⟩ := h
    refine st_set (want0 rfl) (x_store (a := a1) (v := (vi (-9))) (by kernel_rfl) (by kernel_rfl) rfl (Tryz.sizeOf30 _) hp1) ?_
    intro w3 hn1
    have h := h w3 hn1
    have hk := Kept.sc hnh hn1
    obtain ⟨hs, hb⟩ := hk.hh hs hb
    refine wpL_nil (bl_n (th_n (rg (q0 (vi i1) (q0 (vi (q6.wrap (i1 + 1))) (q0 (vi (q6.wrap (i1 + 1))) (wpL_nil (th_n ?_))))))))
    exact ⟨((q6.wrap (i1 + 1)), Hl1, w3), ⟨rfl, hm, hs, hb, h.1⟩, h.2⟩
   ·have h := h.2 hc2
    refine wpE_exit (th_x (th_x (bl_eq (th_n (wpE_seq (wpE_seq (rg (q0 (vi 0) (wpL_nil (th_n (wpE_block ?_)))))))))))
    obtain ⟨I2, mu2, h0, hr⟩ := h
    refine wpE_loop (σ := Int × NP × World) (fun s ρ w => w = s.2.2 ∧ Has ρ [(0, (vp k1)), (1, (vp x1)), (6, r2.v), (8, (vi s.1))] ∧ Hst w0 s.2.1 w s.2.1 w ∧ HB s.2.1 w [] ∧ I2 s.1 s.2.1 s.2.2) (fun s => mu2 s.1 s.2.2) (0, Hl1, wl1) ⟨rfl, hm, hs, hb, h0⟩ ?_
    rintro ⟨i2, Hl2, wl2⟩ ρ w ⟨hw, hH, hs, hb, hI⟩
    obtain rfl : wl2 = w := (show w = wl2 from hw).symm
    have hH : Has ρ [(0, (vp k1)), (1, (vp x1)), (6, r2.v), (8, (vi i2))] := hH
    have hs : Hst w0 Hl2 wl2 Hl2 wl2 := hs
    have hb : HB Hl2 wl2 [] := hb
    have h := hr i2 Hl2 wl2 hs hI
    unfold m_H_l3 at h
    refine wpE_has hH ?_
    refine wpE_seq (wpE_seq (rg (q0 (vi i2) (q0 r2.v (q0 (vi (r2.len : Int)) (q0 (vb (decide (i2 < (r2.len : Int)))) (wpL_nil (th_n ?_))))))))
    refine wpE_cond (t := (decide (i2 < (r2.len : Int)))) (by kernel_rfl) (fun hc3 => ?_) (fun hc3 => ?_)
    ·have h := h.1 hc3
     refine wpE_skip (th_n (wpE_seq (wpE_block (rg (q0 r2.v (q0 (vi i2) ?_))))))
     obtain ⟨a2, hv2, h⟩ := h
     refine q2 (vp (some a2)) (xi (Tryz.runUnderlying52 _) (Tryz.sizeOf30 _) hv2) ?_
     obtain ⟨hp2, hnh, h⟩ := h
     refine st_set (want0 rfl) (x_store (a := a2) (v := (vi (-9))) (by kernel_rfl) (by kernel_rfl) rfl (Tryz.sizeOf30 _) hp2) ?_
     intro w4 hn2
     have h := h w4 hn2
     have hk := Kept.sc hnh hn2
     obtain ⟨hs, hb⟩ := hk.hh hs hb
     refine wpL_nil (bl_n (th_n (rg (q0 (vi i2) (q0 (vi (q6.wrap (i2 + 1))) (q0 (vi (q6.wrap (i2 + 1))) (wpL_nil (th_n ?_))))))))
     exact ⟨((q6.wrap (i2 + 1)), Hl2, w4), ⟨rfl, hm, hs, hb, h.1⟩, h.2⟩
    ·have h := h.2 hc3
     refine wpE_exit (th_x (th_x (bl_eq (th_n (wpE_seq (rg (q0 (vp x1) ?_)))))))
     refine sc Tryz.call65 (h.mono ?_)
     rintro e w5 ⟨r3, rfl, hk, h⟩
     refine ⟨_, rfl, ?_⟩
     obtain ⟨hs, hb⟩ := hk.hh hs hb
     refine q0 r3.v (wpL_nil (th_n (wpE_seq (wpE_seq (rg (q0 (vi (-1)) (wpL_nil (th_n (wpE_block ?_)))))))))
     obtain ⟨I3, mu3, h0, hr⟩ := h
     refine wpE_loop (σ := Int × NP × World) (fun s ρ w => w = s.2.2 ∧ Has ρ [(0, (vp k1)), (1, (vp x1)), (9, r3.v), (10, (vi s.1))] ∧ Hst w0 s.2.1 w s.2.1 w ∧ HB s.2.1 w [] ∧ I3 s.1 s.2.1 s.2.2) (fun s => mu3 s.1 s.2.2) ((-1), Hl2, w5) ⟨rfl, hm, hs, hb, h0⟩ ?_
     rintro ⟨t1, Hl3, wl3⟩ ρ w ⟨hw, hH, hs, hb, hI⟩
     obtain rfl : wl3 = w := (show w = wl3 from hw).symm
     have hH : Has ρ [(0, (vp k1)), (1, (vp x1)), (9, r3.v), (10, (vi t1))] := hH
     have hs : Hst w0 Hl3 wl3 Hl3 wl3 := hs
     have hb : HB Hl3 wl3 [] := hb
     have h := hr t1 Hl3 wl3 hs hI
     unfold m_H_l4 at h
     refine wpE_has hH ?_
     refine wpE_seq (wpE_seq (rg (q0 (vi t1) (q0 (vp x1) ?_))))
     obtain ⟨a3, hp3, h⟩ := h
     refine q2 (vp (some a3)) (x_nilCheck (p := x1) (by kernel_rfl) hp3) (q0 (vp (some a3)) ?_)
     obtain ⟨v1, hv7, h⟩ := h
     refine q2 (vp v1) (xl (Tryz.isAgg27 _) hv7) ?_
     obtain ⟨a4, hp4, h⟩ := h
     refine q2 (vp (some a4)) (x_nilCheck (p := v1) (by kernel_rfl) hp4) (q0 (vp (some a4)) ?_)
     obtain ⟨v2, hv6, h⟩ := h
     refine q2 v2.v (xl (Tryz.isAgg42 _) hv6) (q0 (vi (v2.len : Int)) (q0 (vi (q6.wrap ((v2.len : Int) + 1))) (q0 (vb (decide (t1 ≤ (q6.wrap ((v2.len : Int) + 1))))) (wpL_nil (th_n ?_)))))
     refine wpE_cond (t := (decide (t1 ≤ (q6.wrap ((v2.len : Int) + 1))))) (by kernel_rfl) (fun hc4 => ?_) (fun hc4 => ?_)
     ·have h := h.1 hc4
      refine wpE_skip (th_n (wpE_seq (wpE_block (wpE_seq ?_))))
      refine wpE_via (fun ρ wJ => ∃ HJ : NP, Hst w0 Hl3 wl3 HJ wJ ∧ HB HJ wJ [] ∧ Has ρ [(0, (vp k1)), (1, (vp x1)), (9, r3.v), (10, (vi t1)), (11, (vb ((decide (t1 ≥ 1)) && (decide (t1 < (r3.len : Int))))))]) ?_ ?_
      ·refine rg (q0 (vi t1) (q0 (vb (decide (t1 ≥ 1))) (q0 (vb (decide (t1 ≥ 1))) ?_)))
       refine wpL_join 5 (fun ρ wJ => ∃ b3'0 : Bool, ∃ HJ : NP, ((decide (t1 ≥ 1)) = b3'0) ∧ Hst w0 Hl3 wl3 HJ wJ ∧ HB HJ wJ [] ∧ Has ρ [(0, (vp k1)), (1, (vp x1)), (9, r3.v), (10, (vi t1)), (70, (vb (b3'0 && (decide (t1 < (r3.len : Int))))))]) ?_ ?_
       ·rintro ρ w8 ⟨b3'0, H3, he0, hs, hb, hH⟩
        subst he0
        refine wpL_has hH ?_
        refine q0 (vb ((decide (t1 ≥ 1)) && (decide (t1 < (r3.len : Int))))) (wpL_nil (th_n ?_))
        exact ⟨_, hs, hb, hm⟩
       ·rcases Bool.eq_false_or_eq_true (decide (t1 ≥ 1)) with hg4 | hg4
        ·refine q1 (vi t1) (want1 rfl (yD 65 hg4)) (q1 r3.v (want1 rfl (yD 65 hg4)) (q1 (vi (r3.len : Int)) (want1 rfl (yD 65 hg4)) (q1 (vb (decide (t1 < (r3.len : Int)))) (want1 rfl (yD 65 hg4)) (q2 (vb (decide (t1 < (r3.len : Int)))) (xT hg4) (wpL_nil ?_)))))
         exact ⟨true, _, hg4, hs, hb, hm⟩
        ·refine sk (yD 65 hg4) (sk (yD 65 hg4) (sk (yD 65 hg4) (sk (yD 65 hg4) (q2 (vb false) (xF hg4) (wpL_nil ?_)))))
         exact ⟨false, _, hg4, hs, hb, hm⟩
      ·rintro ρ w7 ⟨H2, hs, hb, hH⟩
       refine norm_has hH ?_
       refine th_n (wpE_seq (rg (q0 (vp k1) (q0 (vi t1) ?_))))
       have h := h H2 w7 hs
       have hs := hs.here
       refine sc Tryz.call53 (h.mono ?_)
       rintro e w9 ⟨r4, rfl, hk, h⟩
       refine ⟨_, rfl, ?_⟩
       obtain ⟨hs, hb⟩ := hk.hh hs hb
       refine q0 (vb ((decide (t1 ≥ 1)) && (decide (t1 < (r3.len : Int))))) (q0 (vb ((decide (t1 ≥ 1)) && (decide (t1 < (r3.len : Int))))) ?_)
       refine wpL_join 5 (fun ρ w => ∃ x3 : Bool, ∃ H : NP, Has ρ [(0, (vp k1)), (1, (vp x1)), (9, r3.v), (10, (vi t1)), (11, (vb ((decide (t1 ≥ 1)) && (decide (t1 < (r3.len : Int)))))), (73, (vb r4)), (80, (vb x3))] ∧ Hst w0 H w H w ∧ HB H w [] ∧ m_H_j5 k1 x1 r3 t1 r4 x3 w0 H w (fun y'0 H' w' => I3 y'0 H' w' ∧ mu3 y'0 w' < mu3 t1 wl3) K) ?_ ?_
       ·rintro ρ w ⟨x3, H, hH, hs, hb, h⟩
        unfold m_H_j5 at h
        refine wpL_has hH ?_
        refine q2 (vb (!(r4 == x3))) (x_bin (by kernel_rfl) (by kernel_rfl) (by kernel_rfl) (eqt_law08_tells_neq_4 r4 x3 _)) (q0 (vb (!(r4 == x3))) ?_)
        rcases Bool.eq_false_or_eq_true (!(r4 == x3)) with hg5 | hg5
        ·have h := h.1 hg5
         refine sk (yD 82 hg5) (sk (yD 82 hg5) (sk (yD 82 hg5) (sk (yD 82 hg5) (sk (yD 82 hg5) (sm (sm (sm (sm (sk (yD 82 hg5) (sk (yD 82 hg5) (q2 (vb true) (xT hg5) ?_)))))))))))
         refine wpL_nil (th_n (wpE_condT (by kernel_rfl) (wpE_seq (rg (q0 (vb false) (wpL_nil (th_n (wpE_ret (bl_r (th_r (th_r ?_)))))))))))
         refine bl_r (th_r (rs1 Tryz.results25 (v := (vb false)) ?_))
         exact ⟨false, rfl, h⟩
        ·have h := h.2 hg5
         refine q1 (vp k1) (want1 rfl (yD 82 hg5)) (q1 (vi t1) (want1 rfl (yD 82 hg5)) ?_)
         refine st_call (want1 rfl (yD 82 hg5)) (xc Tryz.call54) (h.mono ?_)
         rintro e w10 ⟨r5, rfl, hk, h⟩
         refine ⟨_, rfl, ?_⟩
         obtain ⟨hs, hb⟩ := hk.hh hs hb
         refine q1 (vb ((decide (t1 ≥ 1)) && (decide (t1 < (r3.len : Int))))) (want1 rfl (yD 82 hg5)) (q1 (vb ((decide (t1 ≥ 1)) && (decide (t1 < (r3.len : Int))))) (want1 rfl (yD 82 hg5)) ?_)
         refine wpL_join 5 (fun ρ w => ∃ x4 : Bool, ∃ H : NP, Has ρ [(0, (vp k1)), (1, (vp x1)), (9, r3.v), (10, (vi t1)), (82, (vb (!(r4 == x3)))), (85, (vb r5)), (92, (vb x4))] ∧ Hst w0 H w H w ∧ HB H w [] ∧ m_H_j6 t1 r4 x3 r5 x4 w0 H w (fun y'0 H' w' => I3 y'0 H' w' ∧ mu3 y'0 w' < mu3 t1 wl3) K) ?_ ?_
         ·rintro ρ w ⟨x4, H, hH, hs, hb, h⟩
          unfold m_H_j6 at h
          refine wpL_has hH ?_
          refine wpL_join 2 (fun ρ wJ => ∃ b4'0 : Bool, ∃ HJ : NP, ((!(r4 == x3)) = b4'0) ∧ Hst w0 H w HJ wJ ∧ HB HJ wJ [] ∧ Has ρ [(0, (vp k1)), (1, (vp x1)), (9, r3.v), (10, (vi t1)), (94, (vb (b4'0 || (!(r5 == x4)))))]) ?_ ?_
          ·rintro ρ w11 ⟨b4'0, H4, he0, hs, hb, hH⟩
           subst he0
           refine wpL_has hH ?_
           refine wpL_nil (th_n ?_)
           refine wpE_cond (t := ((!(r4 == x3)) || (!(r5 == x4)))) (by kernel_rfl) (fun hc5 => ?_) (fun hc5 => ?_)
           ·have h := h.1 hc5
            refine wpE_seq (rg (q0 (vb false) (wpL_nil (th_n (wpE_ret (bl_r (th_r (th_r (bl_r (th_r ?_))))))))))
            have h := h H4 w11 hs
            have hs := hs.here
            refine rs1 Tryz.results25 (v := (vb false)) ?_
            exact ⟨false, rfl, h⟩
           ·have h := h.2 hc5
            refine wpE_skip (bl_n (th_n (rg (q0 (vi t1) (q0 (vi (q6.wrap (t1 + 1))) (q0 (vi (q6.wrap (t1 + 1))) (wpL_nil ?_)))))))
            have h := h H4 w11 hs
            have hs := hs.here
            refine th_n ?_
            exact ⟨((q6.wrap (t1 + 1)), H4, w11), ⟨rfl, hm, hs, hb, h.1⟩, h.2⟩
          ·rcases Bool.eq_false_or_eq_true (!(r4 == x3)) with hg7 | hg7
           ·refine sk (yD 82 hg7) (q2 (vb true) (xT hg7) (wpL_nil ?_))
            exact ⟨true, _, hg7, hs, hb, hm⟩
           ·refine stp (v := (vb (!(r5 == x4)))) (want1 rfl (yD 82 hg7)) (x_bin (by kernel_rfl) (by kernel_rfl) (by kernel_rfl) (eqt_law08_tells_neq_4 r5 x4 _)) (q2 (vb (!(r5 == x4))) (xF hg7) (wpL_nil ?_))
            exact ⟨false, _, hg7, hs, hb, hm⟩
         ·rcases Bool.eq_false_or_eq_true ((decide (t1 ≥ 1)) && (decide (t1 < (r3.len : Int)))) with hg8 | hg8
          ·have h := h.1 hg8
           refine q1 (vp x1) (want1 rfl (yD 87 hg8)) ?_
           refine st_call (want1 rfl (yD 87 hg8)) (xc Tryz.call64) (h.mono ?_)
           rintro e w12 ⟨r6, rfl, hk, h⟩
           refine ⟨_, rfl, ?_⟩
           obtain ⟨hs, hb⟩ := hk.hh hs hb
           refine q1 (vi t1) (want1 rfl (yD 87 hg8)) ?_
           refine st_call (want1 rfl (yD 87 hg8)) (xc Tryz.call61) (h.mono ?_)
           rintro e w13 ⟨r7, rfl, hk, h⟩
           refine ⟨_, rfl, ?_⟩
           obtain ⟨hs, hb⟩ := hk.hh hs hb
           refine stp (v := (vb r7)) (want1 rfl (yD 82 hg5)) (xT hg8) (wpL_nil ?_)
           exact ⟨r7, H, hm, hs, hb, h⟩
          ·have h := h.2 hg8
           refine sk (yD 87 hg8) (sk (yD 87 hg8) (sk (yD 87 hg8) (sk (yD 87 hg8) (stp (v := (vb false)) (want1 rfl (yD 82 hg5)) (xF hg8) (wpL_nil ?_)))))
           exact ⟨false, H, hm, hs, hb, h⟩
       ·rcases Bool.eq_false_or_eq_true ((decide (t1 ≥ 1)) && (decide (t1 < (r3.len : Int)))) with hg9 | hg9
        ·have h := h.1 hg9
         refine q1 r3.v (want1 rfl (yD 75 hg9)) (q1 (vi t1) (want1 rfl (yD 75 hg9)) ?_)
         obtain ⟨a5, hv4, h⟩ := h
         refine stp (v := (vp (some a5))) (want1 rfl (yD 75 hg9)) (xi (Tryz.runUnderlying117 _) (Tryz.sizeOf4 _) hv4) ?_
         obtain ⟨v3, hv3, h⟩ := h
         refine stp (v := (vb v3)) (want1 rfl (yD 75 hg9)) (xl (Tryz.isAgg4 _) hv3) (q2 (vb v3) (xT hg9) (wpL_nil ?_))
         exact ⟨v3, H2, hm, hs, hb, h⟩
        ·have h := h.2 hg9
         refine sk (yD 75 hg9) (sk (yD 75 hg9) (sk (yD 75 hg9) (sk (yD 75 hg9) (q2 (vb false) (xF hg9) (wpL_nil ?_)))))
         exact ⟨false, H2, hm, hs, hb, h⟩
     ·have h := h.2 hc4
      refine wpE_exit (th_x (th_x (bl_eq (th_n (wpE_seq ?_)))))
      obtain ⟨C1, hC, h⟩ := h
      refine wpE_drawnC C1 [1, 6] [] (by kernel_rfl) (by kernel_rfl) (by kernel_rfl) (by kernel_rfl) hC ?_
      intro w14 hw14
      have h := h w14 hw14
      have hs : Hst w0 Hl3 wl3 Hl3 w14 := by rw [hw14]; exact hs.drew
      have hb : HB Hl3 w14 [] := by rw [hw14]; exact hb.drew
      have hs := hs.here
      refine qx 0 (vp k1) Kp0 (qx 2 (vp x1) Kp2 (qg 3 ?_))
      obtain ⟨a6, hp5, h⟩ := h
      refine sy (v := (vp (some a6))) Kp3 (fun _ _ => (x_nilCheck (p := x1) (by kernel_rfl) hp5)) (qx 4 (vp (some (a6.add 1))) Kp4 (qg 5 ?_))
      obtain ⟨v4, hv5, h⟩ := h
      refine sy (v := v4.v) Kp5 (fun w' hw' => (xl (Tryz.isAgg52 _) (hv5 w' hw'))) (lg 1 ?_)
      refine sl_call Kp1 (want0 rfl) (by kernel_rfl) (xc Tryz.call55) (h.mono ?_)
      rintro e w15 ⟨r8, rfl, hC, hk, h⟩
      refine ⟨_, rfl, .inr hC, ?_⟩
      obtain ⟨hs, hb⟩ := hk.hh hs hb
      refine lg 6 ?_
      refine sl_call Kp6 (want0 rfl) (by kernel_rfl) (xc Tryz.call63) (h.mono ?_)
      rintro e w16 ⟨r9, rfl, hC, hk, h⟩
      refine ⟨_, rfl, .inr hC, ?_⟩
      obtain ⟨hs, hb⟩ := hk.hh hs hb
      refine qx 7 (vb r9) Kp7 (wn (th_n (wpE_ret (rs1 Tryz.results25 (v := (vb r9)) ?_))))
      exact ⟨r9, rfl, h⟩
 ·refine rg (q0 r1.v (q0 (vp x1) ?_))
  obtain ⟨a7, hp6, h⟩ := h
  refine q2 (vp (some a7)) (x_nilCheck (p := x1) (by kernel_rfl) hp6) (q0 (vp (some (a7.add 1))) ?_)
  obtain ⟨v5, hv8, h⟩ := h
  refine q2 v5.v (xl (Tryz.isAgg52 _) hv8) ?_
  refine sc Tryz.call63 (h.mono ?_)
  rintro e w17 ⟨r10, rfl, hk, h⟩
  refine ⟨_, rfl, ?_⟩
  obtain ⟨hs, hb⟩ := hk.hh hs hb
  refine q0 (vb (!r10)) (q0 (vb (!r10)) ?_)
  rcases Bool.eq_false_or_eq_true (!r10) with hg10 | hg10
  ·have h := h.1 hg10
   refine sk (yD 23 hg10) (sk (yD 23 hg10) (sk (yD 23 hg10) (sk (yD 23 hg10) (sk (yD 23 hg10) (q2 (vb true) (xT hg10) (wpL_nil (th_n ?_)))))))
   exact ⟨true, None, hm, hs, hb, h⟩
  ·have h := h.2 hg10
   refine q1 r2.v (want1 rfl (yD 23 hg10)) (q1 (vp x1) (want1 rfl (yD 23 hg10)) ?_)
   refine st_call (want1 rfl (yD 23 hg10)) (xc Tryz.call64) (h.mono ?_)
   rintro e w18 ⟨r11, rfl, hk, h⟩
   refine ⟨_, rfl, ?_⟩
   obtain ⟨hs, hb⟩ := hk.hh hs hb
   refine st_call (want1 rfl (yD 23 hg10)) (xc Tryz.call63) (h.mono ?_)
   rintro e w19 ⟨r12, rfl, hk, h⟩
   refine ⟨_, rfl, ?_⟩
   obtain ⟨hs, hb⟩ := hk.hh hs hb
   refine q1 (vb (!r12)) (want1 rfl (yD 23 hg10)) (q2 (vb (!r12)) (xF hg10) (wpL_nil (th_n ?_)))
   exact ⟨(!r12), None, hm, hs, hb, h⟩
def m_U_l2 (r3 : Option Addr) (r6 : Option Addr) (p1 : Addr) (s2 : Sl) (i1 : Int) (Hl1 : NP) (wl1 : World) (Kc2 : Int → NP → WP) (K : Bool → WP) : Prop :=
 Br (decide (i1 < (s2.len : Int)))
  (Calls Tryz.prog 21 #[(vp r6)] wl1 (fun e w8 => ∃ r7 : Option Addr, e = .returned (vp r7) ∧ 
   Kept Hl1 wl1 w8 ∧
   ∀ (p3 : Addr) (w9 : World), New w8 (.cells #[] 30) p3 w9 →
   ∃ v1 : Sl, w9.cell? (p1.add 1) = some v1.v ∧
   ∃ s3 : Sl, ∃ w10 : World, (Builtin.append_ #[52, 52] 52 #[(Sl.mk (some p3) 0 0).v, v1.v]).run Tryz.prog w9 = .ok s3.v w10 ∧
   Kept Hl1 w9 w10 ∧
   ∀ (p4 : Addr) (w11 : World), New w10 (.cells #[(vp r3), s3.v] 59) p4 w11 →
   ∃ C1 : WP, C1 w11.drew ∧ ∀ w12, w12 = w11.drew →
   ∃ a1 : Addr, At s2 i1 1 a1 ∧
   ∃ v2 : Int, (∀ w', C1 w' → w'.cell? a1 = some (vi v2)) ∧
   ∃ a2 : Addr, At s2 i1 1 a2 ∧
   ∃ v3 : Int, (∀ w', C1 w' → w'.cell? a2 = some (vi v3)) ∧
   Calls Tryz.prog 23 #[(vp r6), (vi v2)] w12 (fun e w13 => ∃ r8 : Int, e = .returned (vi r8) ∧ C1 w13 ∧ 
    Kept Hl1 w12 w13 ∧
    Calls Tryz.prog 22 #[(vi r8)] w13 (fun e w14 => ∃ r9 : Int, e = .returned (vi r9) ∧ C1 w14 ∧ 
     Kept Hl1 w13 w14 ∧
     Calls Tryz.prog 24 #[(vp (some p1)), (vi v3)] w14 (fun e w15 => ∃ r10 : Int, e = .returned (vi r10) ∧ C1 w15 ∧ 
      Kept Hl1 w14 w15 ∧
      Br (r9 != r10)
       (K false w15)
       (Calls Tryz.prog 25 #[(vp r6), (vp (some p1))] w15 (fun e w16 => ∃ r11 : Bool, e = .returned (vb r11) ∧ C1 w16 ∧ 
        Kept Hl1 w15 w16 ∧
        Br (!r11)
         (K false w16)
         (Br (Option.isNone r7)
          (K false w16)
          (Calls Tryz.prog 25 #[(vp r7), (vp (some p4))] w16 (fun e w17 => ∃ r12 : Bool, e = .returned (vb r12) ∧ C1 w17 ∧ 
           Kept Hl1 w16 w17 ∧
           Br (!r12)
            (K false w17)
            (Kc2 (q6.wrap (i1 + 1)) Hl1 w17)))))))))))
  (Calls Tryz.prog 25 #[(vp r6), (vp (some p1))] wl1 (fun e w18 => ∃ r13 : Bool, e = .returned (vb r13) ∧ 
   Kept Hl1 wl1 w18 ∧
   Br r13
    (Calls Tryz.prog 18 #[] w18 (fun e w19 => ∃ r14 : Bool, e = .returned (vb r14) ∧ 
     Kept Hl1 w18 w19 ∧
     K r14 w19))
    (K false w18)))
def m_U_j1 (l1 more1 : Sl) (x1 : Bool) (w0 : World) (H : NP) (w : World) (K : Bool → WP) : Prop :=
 Br x1
  (Calls Tryz.prog 18 #[] w (fun e w1 => ∃ r1 : Bool, e = .returned (vb r1) ∧ 
   Kept H w w1 ∧
   K r1 w1))
  (Calls Tryz.prog 19 #[l1.v] w (fun e w2 => ∃ r2 : Option Addr, ∃ r3 : Option Addr, ∃ r4 : Sl, ∃ r5 : Bool, e = .returned (.tuple #[(vp r2), (vp r3), r4.v, (vb r5)]) ∧ 
   Kept H w w2 ∧
   Br (!r5)
    (K false w2)
    (Calls Tryz.prog 20 #[(vp r2)] w2 (fun e w3 => ∃ r6 : Option Addr, e = .returned (vp r6) ∧ 
     Kept H w2 w3 ∧
     ∀ (p1 : Addr) (w4 : World), New w3 (.cells #[(vp r3), Sl.nil.v] 59) p1 w4 →
     Br (Option.isNone r6)
      (K false w4)
      (∀ (p2 : Addr) (w5 : World), New w4 (.cells #[] 30) p2 w5 →
      ∃ s1 : Sl, ∃ w6 : World, (Builtin.append_ #[52, 52] 52 #[(Sl.mk (some p2) 0 0).v, r4.v]).run Tryz.prog w5 = .ok s1.v w6 ∧
      Kept H w5 w6 ∧
      ∃ s2 : Sl, ∃ w7 : World, (Builtin.append_ #[52, 52] 52 #[s1.v, more1.v]).run Tryz.prog w6 = .ok s2.v w7 ∧
      Kept H w6 w7 ∧
      ∃ (I1 : Int → NP → WP) (mu1 : Int → World → Nat), I1 0 H w7 ∧
       ∀ (i1 : Int) (Hl1 : NP) (wl1 : World), Hst w0 Hl1 wl1 Hl1 wl1 → I1 i1 Hl1 wl1 → m_U_l2 r3 r6 p1 s2 i1 Hl1 wl1 (fun y'0 H' w' => I1 y'0 H' w' ∧ mu1 y'0 w' < mu1 i1 wl1) K)))))
def m_U (l1 more1 : Sl) (w0 : World) (K : Bool → WP) : Prop :=
 Calls Tryz.prog 17 #[l1.v] w0 (fun e w20 => ∃ r15 : Bool, e = .returned (vb r15) ∧ 
  Kept None w0 w20 ∧
  ∀ (H1 : NP) (w21 : World), Hst w0 None w20 H1 w21 →
  m_U_j1 l1 more1 (r15 || (decide ((more1.len : Int) > 20))) w0 H1 w21 K)
theorem w_U (l1 more1 : Sl) (w0 : World) (K : Bool → WP) (h : m_U l1 more1 w0 K) :
  Calls Tryz.prog 4 #[l1.v, more1.v] w0 (fun e w' => ∃ r16 : Bool, e = .returned (vb r16) ∧ K r16 w') := by
 unfold m_U at h
 refine cw (args := [l1.v, more1.v]) Tryz.func4 Tryz.ntmps4 ?_
 have hs := Hst.start w0
 have hb := HB.nil None w0
 refine wpE_seq (rg (q0 (vb false) (wpL_nil (th_n (wpE_seq (wpE_seq ?_))))))
 refine wpE_joinT (fun ρ w => ∃ x1 : Bool, ∃ H : NP, Has ρ [(0, l1.v), (1, more1.v), (21, (vb x1))] ∧ Hst w0 H w H w ∧ HB H w [] ∧ m_U_j1 l1 more1 x1 w0 H w K) ?_ ?_
 ·rintro ρ w ⟨x1, H, hH, hs, hb, h⟩
  unfold m_U_j1 at h
  refine wpE_has hH ?_
  refine wpE_cond (t := x1) (by kernel_rfl) (fun hc1 => ?_) (fun hc1 => ?_)
  ·have h := h.1 hc1
   refine wpE_seq (rg ?_)
   refine sc Tryz.call18 (h.mono ?_)
   rintro e w1 ⟨r1, rfl, hk, h⟩
   refine ⟨_, rfl, ?_⟩
   obtain ⟨hs, hb⟩ := hk.hh hs hb
   refine q0 (vb r1) (wpL_nil (th_n (wpE_ret (th_r (rs1 Tryz.results4 (v := (vb r1)) ?_)))))
   exact ⟨r1, rfl, h⟩
  ·have h := h.2 hc1
   refine wpE_skip (th_n (wpE_seq (rg (q0 l1.v ?_))))
   refine sc Tryz.call19 (h.mono ?_)
   rintro e w2 ⟨r2, r3, r4, r5, rfl, hk, h⟩
   refine ⟨_, rfl, ?_⟩
   obtain ⟨hs, hb⟩ := hk.hh hs hb
   refine q0 (.tuple #[(vp r2), (vp r3), r4.v, (vb r5)]) (q0 (vp r2) (q0 (vp r3) (q0 r4.v (q0 (vb r5) (q0 (vp r2) (q0 (vp r3) (q0 r4.v (q0 (vb r5) (wpL_nil (th_n (wpE_seq ?_)))))))))))
   refine wpE_seq (rg (q0 (vb r5) (q0 (vb (!r5)) (wpL_nil (th_n ?_)))))
   refine wpE_cond (t := (!r5)) (by kernel_rfl) (fun hc2 => ?_) (fun hc2 => ?_)
   ·have h := h.1 hc2
    refine wpE_seq (rg (q0 (vb false) (wpL_nil (th_n (wpE_ret (th_r (rs1 Tryz.results4 (v := (vb false)) ?_)))))))
    exact ⟨false, rfl, h⟩
   ·have h := h.2 hc2
    refine wpE_skip (th_n (wpE_seq (rg (q0 (vp r2) ?_))))
    refine sc Tryz.call20 (h.mono ?_)
    rintro e w3 ⟨r6, rfl, hk, h⟩
    refine ⟨_, rfl, ?_⟩
    obtain ⟨hs, hb⟩ := hk.hh hs hb
    refine q0 (vp r6) (wpL_nil (th_n (wpE_seq (rg (q0 (vp r3) (q0 (.agg #[(vp r3), Sl.nil.v]) (sn (O := (.cells #[(vp r3), Sl.nil.v] 59)) xb ?_)))))))
    intro p1 w4 hn4
    have h := h p1 w4 hn4
    have hs := hs.again (Ext.new (F := None) hn4).keptP
    have hb := hb.kept (Ext.new (F := None) hn4).keptP
    refine q0 (vp (some p1)) (wpL_nil (th_n (wpE_seq (wpE_seq (rg (q0 (vp r6) (q2 (vb (Option.isNone r6)) (x_ptreq (by kernel_rfl) rfl Tryz.underlying55) (wpL_nil (th_n ?_)))))))))
    refine wpE_cond (t := (Option.isNone r6)) (by kernel_rfl) (fun hc3 => ?_) (fun hc3 => ?_)
    ·have h := h.1 hc3
     refine wpE_seq (rg (q0 (vb false) (wpL_nil (th_n (wpE_ret (th_r (rs1 Tryz.results4 (v := (vb false)) ?_)))))))
     exact ⟨false, rfl, h⟩
    ·have h := h.2 hc3
     refine wpE_skip (th_n (wpE_seq (rg (st_new (O := (.cells #[] 30)) (fun p => (Sl.mk (some p) 0 0).v) (want0 rfl) (x_buildSlice (vs := #[]) (by kernel_rfl) (by kernel_rfl)) ?_))))
     intro p2 w5 hn3
     have h := h p2 w5 hn3
     have hs := hs.again (Ext.new (F := None) hn3).keptP
     have hb := hb.kept (Ext.new (F := None) hn3).keptP
     refine q0 r4.v ?_
     obtain ⟨s1, w6, hv8, hk, h⟩ := h
     refine st (v := s1.v) (want0 rfl) (x_builtin (args := #[(Sl.mk (some p2) 0 0).v, r4.v]) (by kernel_rfl) (fun _ => rfl) hv8) ?_
     obtain ⟨hs, hb⟩ := hk.hh hs hb
     refine q0 more1.v ?_
     obtain ⟨s2, w7, hv7, hk, h⟩ := h
     refine st (v := s2.v) (want0 rfl) (x_builtin (args := #[s1.v, more1.v]) (by kernel_rfl) (fun _ => rfl) hv7) ?_
     obtain ⟨hs, hb⟩ := hk.hh hs hb
     refine q0 s2.v (wpL_nil (th_n (wpE_seq (wpE_seq (rg (q0 (vi 0) (wpL_nil (th_n (wpE_block ?_)))))))))
     obtain ⟨I1, mu1, h0, hr⟩ := h
     refine wpE_loop (σ := Int × NP × World) (fun s ρ w => w = s.2.2 ∧ Has ρ [(6, (vp r3)), (9, (vp r6)), (10, (vp (some p1))), (11, s2.v), (12, (vi s.1))] ∧ Hst w0 s.2.1 w s.2.1 w ∧ HB s.2.1 w [] ∧ I1 s.1 s.2.1 s.2.2) (fun s => mu1 s.1 s.2.2) (0, H, w7) ⟨rfl, hm, hs, hb, h0⟩ ?_
     rintro ⟨i1, Hl1, wl1⟩ ρ w ⟨hw, hH, hs, hb, hI⟩
     obtain rfl : wl1 = w := (show w = wl1 from hw).symm
     have hH : Has ρ [(6, (vp r3)), (9, (vp r6)), (10, (vp (some p1))), (11, s2.v), (12, (vi i1))] := hH
     have hs : Hst w0 Hl1 wl1 Hl1 wl1 := hs
     have hb : HB Hl1 wl1 [] := hb
     have h := hr i1 Hl1 wl1 hs hI
     unfold m_U_l2 at h
     refine wpE_has hH ?_
     refine wpE_seq (wpE_seq (rg (q0 (vi i1) (q0 s2.v (q0 (vi (s2.len : Int)) (q0 (vb (decide (i1 < (s2.len : Int)))) (wpL_nil (th_n ?_))))))))
     refine wpE_cond (t := (decide (i1 < (s2.len : Int)))) (by kernel_rfl) (fun hc4 => ?_) (fun hc4 => ?_)
     ·have h := h.1 hc4
      refine wpE_skip (th_n (wpE_seq (wpE_block (wpE_seq (rg (q0 (vp r6) ?_))))))
      refine sc Tryz.call21 (h.mono ?_)
      rintro e w8 ⟨r7, rfl, hk, h⟩
      refine ⟨_, rfl, ?_⟩
      obtain ⟨hs, hb⟩ := hk.hh hs hb
      refine q0 (vp r7) (wpL_nil (th_n (wpE_seq (rg (q0 (vp r3) (st_new (O := (.cells #[] 30)) (fun p => (Sl.mk (some p) 0 0).v) (want0 rfl) (x_buildSlice (vs := #[]) (by kernel_rfl) (by kernel_rfl)) ?_))))))
      intro p3 w9 hn2
      have h := h p3 w9 hn2
      have hs := hs.again (Ext.new (F := None) hn2).keptP
      have hb := hb.kept (Ext.new (F := None) hn2).keptP
      refine q0 (vp (some p1)) (q0 (vp (some p1)) (q0 (vp (some (p1.add 1))) ?_))
      obtain ⟨v1, hv6, h⟩ := h
      refine q2 v1.v (xl (Tryz.isAgg52 _) hv6) ?_
      obtain ⟨s3, w10, hv5, hk, h⟩ := h
      refine st (v := s3.v) (want0 rfl) (x_builtin (args := #[(Sl.mk (some p3) 0 0).v, v1.v]) (by kernel_rfl) (fun _ => rfl) hv5) ?_
      obtain ⟨hs, hb⟩ := hk.hh hs hb
      refine q0 (.agg #[(vp r3), s3.v]) (sn (O := (.cells #[(vp r3), s3.v] 59)) xb ?_)
      intro p4 w11 hn1
      have h := h p4 w11 hn1
      have hs := hs.again (Ext.new (F := None) hn1).keptP
      have hb := hb.kept (Ext.new (F := None) hn1).keptP
      refine q0 (vp (some p4)) (wpL_nil (th_n (wpE_seq ?_)))
      obtain ⟨C1, hC, h⟩ := h
      refine wpE_drawnC C1 [5, 6, 12, 17, 27] [] (by kernel_rfl) (by kernel_rfl) (by kernel_rfl) (by kernel_rfl) hC ?_
      intro w12 hw12
      have h := h w12 hw12
      have hs : Hst w0 Hl1 w11 Hl1 w12 := by rw [hw12]; exact hs.drew
      have hb : HB Hl1 w12 [] := by rw [hw12]; exact hb.drew
      have hs := hs.here
      refine qx 0 (vp r6) Kp0 (qx 1 s2.v Kp1 (qx 2 (vi i1) Kp2 (qg 3 ?_)))
      obtain ⟨a1, hv4, h⟩ := h
      refine sy (v := (vp (some a1))) Kp3 (fun _ _ => (xi (Tryz.runUnderlying52 _) (Tryz.sizeOf30 _) hv4)) (qg 4 ?_)
      obtain ⟨v2, hv3, h⟩ := h
      refine sy (v := (vi v2)) Kp4 (fun w' hw' => (xl (Tryz.isAgg30 _) (hv3 w' hw'))) (qx 7 (vp (some p1)) Kp7 (qx 8 s2.v Kp8 (qx 9 (vi i1) Kp9 (qg 10 ?_))))
      obtain ⟨a2, hv2, h⟩ := h
      refine sy (v := (vp (some a2))) (pickA (S8 (pickS (pickS pickZ)))) (fun _ _ => (xi (Tryz.runUnderlying52 _) (Tryz.sizeOf30 _) hv2)) (qg 11 ?_)
      obtain ⟨v3, hv1, h⟩ := h
      refine sy (v := (vi v3)) (pickA (S8 (pickS (pickS (pickS pickZ))))) (fun w' hw' => (xl (Tryz.isAgg30 _) (hv1 w' hw'))) (lg 5 ?_)
      refine sl_call Kp5 (want0 rfl) (by kernel_rfl) (xc Tryz.call23) (h.mono ?_)
      rintro e w13 ⟨r8, rfl, hC, hk, h⟩
      refine ⟨_, rfl, .inr hC, ?_⟩
      obtain ⟨hs, hb⟩ := hk.hh hs hb
      refine lg 6 ?_
      refine sl_call Kp6 (want0 rfl) (by kernel_rfl) (xc Tryz.call22) (h.mono ?_)
      rintro e w14 ⟨r9, rfl, hC, hk, h⟩
      refine ⟨_, rfl, .inr hC, ?_⟩
      obtain ⟨hs, hb⟩ := hk.hh hs hb
      refine lg 12 ?_
      refine sl_call (pickA (S8 (S4 pickZ))) (want0 rfl) (by kernel_rfl) (xc Tryz.call24) (h.mono ?_)
      rintro e w15 ⟨r10, rfl, hC, hk, h⟩
      refine ⟨_, rfl, .inr hC, ?_⟩
      obtain ⟨hs, hb⟩ := hk.hh hs hb
      refine qx 13 (vb (r9 != r10)) (pickA (S8 (S4 (pickS pickZ)))) (qx 14 (vb (r9 != r10)) (pickA (S8 (S4 (pickS (pickS pickZ))))) (qg 15 ?_))
      rcases Bool.eq_false_or_eq_true (r9 != r10) with hg1 | hg1
      ·have h := h.1 hg1
       refine sx_not (pickA (S8 (S4 (pickS (pickS (pickS pickZ)))))) (unwant rfl (yD 75 hg1) rfl) (qn 16 (pickA (S8 (S8 pickZ))) (unwant rfl (yD 75 hg1) rfl) (lg 17 (sx_not (pickA (S8 (S8 (pickS pickZ)))) (unwant rfl (yD 75 hg1) rfl) (qn 18 (pickA (S8 (S8 (pickS (pickS pickZ))))) (unwant rfl (yD 75 hg1) rfl) (qz 19 (vb true) (pickA (S8 (S8 (pickS (pickS (pickS pickZ)))))) (fun _ _ => (xT hg1)) (qx 20 (vb true) (pickA (S8 (S8 (S4 pickZ)))) (qn 21 (pickA (S8 (S8 (S4 (pickS pickZ))))) (unwant rfl (yD (c := true) 81 rfl) rfl) (qn 22 (pickA (S8 (S8 (S4 (pickS (pickS pickZ)))))) (unwant rfl (yD (c := true) 81 rfl) rfl) (qx 23 (vb true) (pickA (S8 (S8 (S4 (pickS (pickS (pickS pickZ))))))) (qx 24 (vb true) (pickA (S8 (S8 (S8 pickZ)))) (qn 25 (pickA (S8 (S8 (S8 (pickS pickZ))))) (unwant rfl (yD (c := true) 85 rfl) rfl) ?_)))))))))))
       refine qn 26 (pickA (S8 (S8 (S8 (pickS (pickS pickZ)))))) (unwant rfl (yD (c := true) 85 rfl) rfl) (lg 27 (sx_not (pickA (S8 (S8 (S8 (pickS (pickS (pickS pickZ))))))) (unwant rfl (yD (c := true) 85 rfl) rfl) (qn 28 (pickA (S8 (S8 (S8 (S4 pickZ))))) (unwant rfl (yD (c := true) 85 rfl) rfl) (qx 29 (vb true) (pickA (S8 (S8 (S8 (S4 (pickS pickZ)))))) (wn (th_n (wpE_condT (by kernel_rfl) (wpE_seq (rg (q0 (vb false) (wpL_nil ?_)))))))))))
       refine th_n (wpE_ret (bl_r (th_r (th_r (bl_r (th_r (rs1 Tryz.results4 (v := (vb false)) ?_)))))))
       exact ⟨false, rfl, h⟩
      ·have h := h.2 hg1
       refine sz (v := (vp r6)) (pickA (S8 (S4 (pickS (pickS (pickS pickZ)))))) (want1 rfl (yD 75 hg1)) (fun _ _ => (by kernel_rfl)) (qw 16 (vp (some p1)) (pickA (S8 (S8 pickZ))) (want1 rfl (yD 75 hg1)) (lg 17 ?_))
       refine sl_call (pickA (S8 (S8 (pickS pickZ)))) (want1 rfl (yD 75 hg1)) (by kernel_rfl) (xc Tryz.call25) (h.mono ?_)
       rintro e w16 ⟨r11, rfl, hC, hk, h⟩
       refine ⟨_, rfl, .inr hC, ?_⟩
       obtain ⟨hs, hb⟩ := hk.hh hs hb
       refine qw 18 (vb (!r11)) (pickA (S8 (S8 (pickS (pickS pickZ))))) (want1 rfl (yD 75 hg1)) (qz 19 (vb (!r11)) (pickA (S8 (S8 (pickS (pickS (pickS pickZ)))))) (fun _ _ => (xF hg1)) (qx 20 (vb (!r11)) (pickA (S8 (S8 (S4 pickZ)))) (qg 21 ?_)))
       rcases Bool.eq_false_or_eq_true (!r11) with hg2 | hg2
       ·have h := h.1 hg2
        refine sx_not (pickA (S8 (S8 (S4 (pickS pickZ))))) (unwant rfl (yD 81 hg2) rfl) (qn 22 (pickA (S8 (S8 (S4 (pickS (pickS pickZ)))))) (unwant rfl (yD 81 hg2) rfl) (qz 23 (vb true) (pickA (S8 (S8 (S4 (pickS (pickS (pickS pickZ))))))) (fun _ _ => (xT hg2)) (qx 24 (vb true) (pickA (S8 (S8 (S8 pickZ)))) (qn 25 (pickA (S8 (S8 (S8 (pickS pickZ))))) (unwant rfl (yD (c := true) 85 rfl) rfl) (qn 26 (pickA (S8 (S8 (S8 (pickS (pickS pickZ)))))) (unwant rfl (yD (c := true) 85 rfl) rfl) (lg 27 (sx_not (pickA (S8 (S8 (S8 (pickS (pickS (pickS pickZ))))))) (unwant rfl (yD (c := true) 85 rfl) rfl) (qn 28 (pickA (S8 (S8 (S8 (S4 pickZ))))) (unwant rfl (yD (c := true) 85 rfl) rfl) (qx 29 (vb true) (pickA (S8 (S8 (S8 (S4 (pickS pickZ)))))) (wn (th_n ?_)))))))))))
        refine wpE_condT (by kernel_rfl) (wpE_seq (rg (q0 (vb false) (wpL_nil (th_n (wpE_ret (bl_r (th_r (th_r (bl_r (th_r ?_)))))))))))
        refine rs1 Tryz.results4 (v := (vb false)) ?_
        exact ⟨false, rfl, h⟩
       ·have h := h.2 hg2
        refine sz (v := (vp r7)) (pickA (S8 (S8 (S4 (pickS pickZ))))) (want1 rfl (yD 81 hg2)) (fun _ _ => (by kernel_rfl)) (qg 22 (sz (v := (vb (Option.isNone r7))) (pickA (S8 (S8 (S4 (pickS (pickS pickZ)))))) (want1 rfl (yD 81 hg2)) (fun _ _ => (x_ptreq (by kernel_rfl) rfl Tryz.underlying55)) (qz 23 (vb (Option.isNone r7)) (pickA (S8 (S8 (S4 (pickS (pickS (pickS pickZ))))))) (fun _ _ => (xF hg2)) (qx 24 (vb (Option.isNone r7)) (pickA (S8 (S8 (S8 pickZ)))) (qg 25 ?_)))))
        rcases Bool.eq_false_or_eq_true (Option.isNone r7) with hg3 | hg3
        ·have h := h.1 hg3
         refine sx_not (pickA (S8 (S8 (S8 (pickS pickZ))))) (unwant rfl (yD 85 hg3) rfl) (qn 26 (pickA (S8 (S8 (S8 (pickS (pickS pickZ)))))) (unwant rfl (yD 85 hg3) rfl) (lg 27 (sx_not (pickA (S8 (S8 (S8 (pickS (pickS (pickS pickZ))))))) (unwant rfl (yD 85 hg3) rfl) (qn 28 (pickA (S8 (S8 (S8 (S4 pickZ))))) (unwant rfl (yD 85 hg3) rfl) (qz 29 (vb true) (pickA (S8 (S8 (S8 (S4 (pickS pickZ)))))) (fun _ _ => (xT hg3)) (wn (th_n (wpE_condT (by kernel_rfl) (wpE_seq (rg (q0 (vb false) ?_)))))))))))
         refine wpL_nil (th_n (wpE_ret (bl_r (th_r (th_r (bl_r (th_r (rs1 Tryz.results4 (v := (vb false)) ?_))))))))
         exact ⟨false, rfl, h⟩
        ·have h := h.2 hg3
         refine sz (v := (vp r7)) (pickA (S8 (S8 (S8 (pickS pickZ))))) (want1 rfl (yD 85 hg3)) (fun _ _ => (by kernel_rfl)) (qw 26 (vp (some p4)) (pickA (S8 (S8 (S8 (pickS (pickS pickZ)))))) (want1 rfl (yD 85 hg3)) (lg 27 ?_))
         refine sl_call (pickA (S8 (S8 (S8 (pickS (pickS (pickS pickZ))))))) (want1 rfl (yD 85 hg3)) (by kernel_rfl) (xc Tryz.call25) (h.mono ?_)
         rintro e w17 ⟨r12, rfl, hC, hk, h⟩
         refine ⟨_, rfl, .inr hC, ?_⟩
         obtain ⟨hs, hb⟩ := hk.hh hs hb
         refine qw 28 (vb (!r12)) (pickA (S8 (S8 (S8 (S4 pickZ))))) (want1 rfl (yD 85 hg3)) (qz 29 (vb (!r12)) (pickA (S8 (S8 (S8 (S4 (pickS pickZ)))))) (fun _ _ => (xF hg3)) (wn (th_n ?_)))
         refine wpE_cond (t := (!r12)) (by kernel_rfl) (fun hc5 => ?_) (fun hc5 => ?_)
         ·have h := h.1 hc5
          refine wpE_seq (rg (q0 (vb false) (wpL_nil (th_n (wpE_ret (bl_r (th_r (th_r (bl_r (th_r (rs1 Tryz.results4 (v := (vb false)) ?_)))))))))))
          exact ⟨false, rfl, h⟩
         ·have h := h.2 hc5
          refine wpE_skip (bl_n (th_n (rg (q0 (vi i1) (q0 (vi (q6.wrap (i1 + 1))) (q0 (vi (q6.wrap (i1 + 1))) (wpL_nil (th_n ?_))))))))
          exact ⟨((q6.wrap (i1 + 1)), Hl1, w17), ⟨rfl, hm, hs, hb, h.1⟩, h.2⟩
     ·have h := h.2 hc4
      refine wpE_exit (th_x (th_x (bl_eq (th_n (wpE_seq (rg (q0 (vp r6) (q0 (vp (some p1)) ?_))))))))
      refine sc Tryz.call25 (h.mono ?_)
      rintro e w18 ⟨r13, rfl, hk, h⟩
      refine ⟨_, rfl, ?_⟩
      obtain ⟨hs, hb⟩ := hk.hh hs hb
      refine q0 (vb r13) ?_
      rcases Bool.eq_false_or_eq_true r13 with hg4 | hg4
      ·have h := h.1 hg4
       refine st_call (want1 rfl (yD 94 hg4)) (xc Tryz.call18) (h.mono ?_)
       rintro e w19 ⟨r14, rfl, hk, h⟩
       refine ⟨_, rfl, ?_⟩
       obtain ⟨hs, hb⟩ := hk.hh hs hb
       refine q2 (vb r14) (xT hg4) (q0 (vb r14) (wpL_nil (th_n (wpE_ret (rs1 Tryz.results4 (v := (vb r14)) ?_)))))
       exact ⟨r14, rfl, h⟩
      ·have h := h.2 hg4
       refine sk (yD 94 hg4) (q2 (vb false) (xF hg4) (q0 (vb false) (wpL_nil (th_n (wpE_ret (rs1 Tryz.results4 (v := (vb false)) ?_))))))
       exact ⟨false, rfl, h⟩
 ·refine rg (q0 l1.v ?_)
  refine sc Tryz.call17 (h.mono ?_)
  rintro e w20 ⟨r15, rfl, hk, h⟩
  refine ⟨_, rfl, ?_⟩
  obtain ⟨hs, hb⟩ := hk.hh hs hb
  refine q0 (vb r15) ?_
  refine wpL_join 4 (fun ρ wJ => ∃ b1'0 : Bool, ∃ HJ : NP, (r15 = b1'0) ∧ Hst w0 None w20 HJ wJ ∧ HB HJ wJ [] ∧ Has ρ [(0, l1.v), (1, more1.v), (21, (vb (b1'0 || (decide ((more1.len : Int) > 20)))))]) ?_ ?_
  ·rintro ρ w21 ⟨b1'0, H1, he0, hs, hb, hH⟩
   subst he0
   refine wpL_has hH ?_
   refine wpL_nil ?_
   have h := h H1 w21 hs
   have hs := hs.here
   refine th_n ?_
   exact ⟨(r15 || (decide ((more1.len : Int) > 20))), H1, hm, hs, hb, h⟩
  ·rcases Bool.eq_false_or_eq_true r15 with hg6 | hg6
   ·refine sk (yD 17 hg6) (sk (yD 17 hg6) (sk (yD 17 hg6) (q2 (vb true) (xT hg6) (wpL_nil ?_))))
    exact ⟨true, _, hg6, hs, hb, hm⟩
   ·refine q1 more1.v (want1 rfl (yD 17 hg6)) (q1 (vi (more1.len : Int)) (want1 rfl (yD 17 hg6)) (q1 (vb (decide ((more1.len : Int) > 20))) (want1 rfl (yD 17 hg6)) (q2 (vb (decide ((more1.len : Int) > 20))) (xF hg6) (wpL_nil ?_))))
    exact ⟨false, _, hg6, hs, hb, hm⟩
end Go.Proofs
end
section
open Go Go.SE
namespace Go.Proofs
attribute [local irreducible] Calls
structure KnAt (w0 : World) (H : NP) (w : World) (p k : Addr) (L : Sp.Pool) (G : List Int) (S : List Sp.Way) (FP F : NP) : Prop where
 pool : PoolAt w p L FP
 know : KnowAt w k p G S F
 pure : Pure w0 w
 oP : ∀ b, FP b → w0.heap.size ≤ b ∧ ¬ H b
 oF : ∀ b, F b → w0.heap.size ≤ b ∧ ¬ H b ∧ ¬ FP b
 hs : Hst w0 H w H w
section
variable {w0 w w' : World} {H H' : NP} {p k : Addr} {L L' : Sp.Pool} {G G' : List Int} {S S' : List Sp.Way} {FP FP' F F' : NP}
theorem KnAt.pureE (h : KnAt w0 H w p k L G S FP F) (E : Pure w w') : KnAt w0 H w' p k L G S FP F := ⟨h.pool.pure E, h.know.pure E, h.pure.trans E, h.oP, h.oF, h.hs.again E.keptP⟩
theorem KnAt.hst (h : KnAt w0 H w p k L G S FP F) (hs : Hst w0 H w H' w') : KnAt w0 H' w' p k L G S FP F := by
 have x1 := hs.disj (G := FP) (fun b hb => ⟨h.pool.lt hb, (h.oP b hb).2⟩)
 have x2 := hs.disj (G := F) (fun b hb => ⟨h.know.lt hb, (h.oF b hb).2.1⟩)
 exact ⟨h.pool.ext hs.ext x1, h.know.ext hs.ext x2, h.pure.hst hs, fun b hb => ⟨(h.oP b hb).1, x1 b hb⟩, fun b hb => ⟨(h.oF b hb).1, x2 b hb, (h.oF b hb).2.2⟩, hs.here⟩
theorem KnAt.make (h : KnAt w0 H w p k L G S FP F) (hP : PoolAt w' p L' FP') (E : Ext FP w w') (hF : ∀ b, FP' b → FP b ∨ w.heap.size ≤ b) : Kept H w w' ∧ KnAt w0 H w' p k L' G S FP' F := by
 have hk : Kept H w w' := E.kept (fun b hb hf => (h.oP b hf).2 hb)
 refine ⟨hk, hP, h.know.ext E (fun b hb => (h.oF b hb).2.2), h.pure.trans' E (fun i hi hb => by have := (h.oP i hb).1; omega), fun b hb => ?_, fun b hb => ⟨(h.oF b hb).1, (h.oF b hb).2.1, fun hx => ?_⟩, h.hs.again hk⟩
 ·rcases hF b hb with h1 | h1
  ·exact h.oP b h1
  ·exact ⟨by have := h.pure.size; omega, fun hh => by have := h.hs.lt b hh; omega⟩
 ·rcases hF b hx with h1 | h1
  ·exact (h.oF b hb).2.2 h1
  ·have := h.know.lt hb; omega
theorem KnAt.add (h : KnAt w0 H w p k L G S FP F) (hK : KnowAt w' k p G' S' F') (E : Ext F w w') (hF : ∀ b, F' b → F b ∨ w.heap.size ≤ b) : Kept H w w' ∧ KnAt w0 H w' p k L G' S' FP F' := by
 have hk : Kept H w w' := E.kept (fun b hb hf => (h.oF b hf).2.1 hb)
 refine ⟨hk, h.pool.ext E (fun b hb hf => (h.oF b hf).2.2 hb), hK, h.pure.trans' E (fun i hi hb => by have := (h.oF i hb).1; omega), h.oP, fun b hb => ?_, h.hs.again hk⟩
 rcases hF b hb with h1 | h1
 ·exact h.oF b h1
 ·exact ⟨by have := h.pure.size; omega, fun hh => by have := h.hs.lt b hh; omega, fun hh => by have := h.pool.lt hh; omega⟩
end
theorem tm_box {w : World} {p : Addr} {T : TypeId} (t : Int) (h : Box w p [.int .i64 t] T) : Lst (· = p.block) w 1 ⟨some p, 1, 1⟩ (tmr [t]) := by
 refine ⟨by simp [tmr], fun i hi => ?_⟩
 have hi0 : i = 0 := by simpa [tmr] using hi
 subst hi0
 refine ⟨p, ⟨by omega, by simp, p, rfl, by simp [Addr.add]⟩, rfl, fun j hj => ?_⟩
 have hj0 : j = 0 := by simpa [tmr] using hj
 subst hj0
 have := h.cell0
 simpa [tmr, Addr.add] using this
theorem c_live8 (w0 : World) : Calls Tryz.prog 18 #[] w0 (fun e w' => ∃ r : Bool, e = .returned (.bool r) ∧ (r = true ∧ Pure w0 w')) := by
 refine w_O w0 (fun r w' => r = true ∧ Pure w0 w') ?_
 unfold m_O
 refine (c_New w0).mono ?_
 rintro _ w1 ⟨_, rfl, p, rfl, E1, FP1, hP1, hF1⟩
 refine ⟨_, rfl, E1.keptP, ?_⟩
 refine (c_ded_New p w1).mono ?_
 rintro _ w2 ⟨_, rfl, k, F, rfl, hk2, E2, hF2⟩
 refine ⟨_, rfl, E2.keptP, Br.f rfl ?_⟩
 have A2 : KnAt w0 None w2 p k [] [] [] FP1 F := ⟨hP1.pure E2, hk2, E1.trans E2, fun b hb => ⟨hF1 b hb, fun h => h⟩, fun b hb => ⟨by have := hF2 b hb; have := E1.size; omega, fun h => h, fun h => by have := hF2 b hb; have := hP1.lt h; omega⟩, (Hst.start w0).again (E1.trans E2).keptP⟩
 intro H1 w3 hs3
 have A3 := A2.hst hs3
 refine (c_Num p w3 A3.pool Sp.Wf.nil.ok 1).mono ?_
 rintro _ w4 ⟨r3, r4, rfl, hr, FP4, hP4, E4, hF4⟩
 rw [show (⟨2, 0, 0, 1, ⟨#[]⟩, 0, 0⟩ : Sp.Node) = Sp.l8a from rfl, Sp.l8m1] at hr hP4; cases hr
 obtain ⟨k4, A4⟩ := A3.make hP4 E4 hF4
 refine ⟨_, _, rfl, k4, ?_⟩
 refine (c_Name p w4 A4.pool Sp.l8w1.ok 2).mono ?_
 rintro _ w5 ⟨r5, r6, rfl, hr, FP5, hP5, E5, hF5⟩
 rw [show (⟨1, 2, 0, 0, ⟨#[]⟩, 0, 0⟩ : Sp.Node) = Sp.l8b from rfl, Sp.l8m2] at hr hP5; cases hr
 obtain ⟨k5, A5⟩ := A4.make hP5 E5 hF5
 refine ⟨_, _, rfl, k5, ?_⟩
 refine (c_Pair p w5 A5.pool Sp.l8w2.ok 1 2).mono ?_
 rintro _ w6 ⟨r7, r8, rfl, hr, FP6, hP6, E6, hF6⟩
 rw [show (⟨4, 0, 0, 0, ⟨#[]⟩, 1, 2⟩ : Sp.Node) = Sp.l8c from rfl, Sp.l8m3] at hr hP6; cases hr
 obtain ⟨k6, A6⟩ := A5.make hP6 E6 hF6
 refine ⟨_, _, rfl, k6, ?_⟩
 refine (c_Sign p w6 A6.pool Sp.l8w3.ok 0 3).mono ?_
 rintro _ w7 ⟨r9, r10, rfl, hr, FP7, hP7, E7, hF7⟩
 rw [show (⟨7, 0, 0, 0, ⟨#[]⟩, 3, 0⟩ : Sp.Node) = Sp.l8s from rfl, Sp.l8m4] at hr hP7; cases hr
 obtain ⟨k7, A7⟩ := A6.make hP7 E7 hF7
 refine ⟨_, _, rfl, k7, ?_⟩
 refine (c_Hash p w7 A7.pool Sp.l8w4.ok 1).mono ?_
 rintro _ w8 ⟨r11, r12, rfl, hr, FP8, hP8, E8, hF8⟩
 rw [show (⟨5, 0, 0, 0, ⟨#[]⟩, 1, 0⟩ : Sp.Node) = Sp.l8h from rfl, Sp.l8m5] at hr hP8; cases hr
 obtain ⟨k8, A8⟩ := A7.make hP8 E8 hF8
 refine ⟨_, _, rfl, k8, ?_⟩
 refine (c_Key p w8 A8.pool Sp.l8w5.ok 0).mono ?_
 rintro _ w9 ⟨r13, r14, rfl, hr, FP9, hP9, E9, hF9⟩
 rw [show (⟨6, 0, 0, 0, ⟨#[]⟩, 0, 0⟩ : Sp.Node) = Sp.l8k from rfl, Sp.l8m6] at hr hP9; cases hr
 obtain ⟨k9, A9⟩ := A8.make hP9 E9 hF9
 refine ⟨_, _, rfl, k9, ?_⟩
 refine (c_Sign p w9 A9.pool Sp.l8w6.ok 0 1).mono ?_
 rintro _ w10 ⟨r15, r16, rfl, hr, FP, hP10, E10, hF10⟩
 rw [show (⟨7, 0, 0, 0, ⟨#[]⟩, 1, 0⟩ : Sp.Node) = Sp.l8u from rfl, Sp.l8m7] at hr hP10; cases hr
 obtain ⟨k10, A10⟩ := A9.make hP10 E10 hF10
 refine ⟨_, _, rfl, k10, ?_⟩
 have hW := Sp.l8w7
 refine (c_ded_Add k p 4 w10 A10.know A10.pool hW (fun b hb => (A10.oF b hb).2.2) (Sp.KnowOk.nil _)).mono ?_
 rintro _ w11 ⟨_, rfl, rfl, S1, F1, hK1, ok1, X11, f11⟩
 rw [show Sp.giveT Sp.l87 [] 4 = [4] by unfold Sp.giveT; rw [if_pos Sp.l8in.1]; rfl] at hK1 ok1
 obtain ⟨k11, A11⟩ := A10.add hK1 X11 f11
 refine ⟨_, rfl, k11, ?_⟩
 have hs1 : ∀ t, t ∈ Sp.wkeys S1 ↔ Sp.Seen Sp.l87 [4] t := ok1.seen_iff
 refine (c_ded_Proof k p 5 w11 hW ok1 A11.know A11.pool).mono ?_
 rintro _ w12 ⟨r18, r19, rfl, l, hr18, hd19, _, hpf⟩
 have h19 := hd19.2 Sp.l8hash
 subst h19
 obtain ⟨hne, hfol, hnd, hlast, _⟩ := hpf rfl
 refine ⟨_, _, rfl, hr18.kept, ?_⟩
 have A12 := A11.pureE hr18.pure
 intro p1 w13 h13
 have E13 : Pure w12 w13 := Ext.new h13
 have A13 := A12.pureE E13
 have hfew : l.length ≤ 7 := by
  have := Sp.pool_few (L := Sp.l87) hnd (fun t ht => by
   obtain ⟨s, hs, rfl⟩ := List.mem_map.1 ht
   obtain ⟨i, hi, rfl⟩ := List.getElem_of_mem hs
   exact Sp.fol_in (hfol i hi))
  simpa [Sp.l87] using this
 refine (c_ded_Check p _ r18 [4] l 5 w13 A13.pool hW.ok (tm_box 4 (Box.of_new h13)) (hr18.rows.pure E13).lst (by simp) (by omega)).mono ?_
 rintro _ w14 ⟨r20, r21, rfl, hch, E14⟩
 have hc0 : Sp.check8 Sp.l87 [4] l 5 = (0, 0) := by
  unfold Sp.check8
  rw [Sp.badAt_none hfol]
  have : l.length ≠ 0 := fun h => hne (List.length_eq_zero_iff.1 h)
  simp [this, hlast]
 rw [hc0] at hch; cases hch
 have A14 := A13.pureE E14
 refine ⟨_, _, rfl, E14.keptP, ?_⟩
 refine (c_ded_Derives k p 7 w14 hW ok1 A14.know A14.pool).mono ?_
 rintro _ w15 ⟨r22, rfl, hd22, E15⟩
 have h22 : r22 = false := by
  cases r22 with
  | false => rfl
  | true =>
   refine absurd (hd22.1 rfl) (Sp.l8u_no (fun h => ?_) (fun h => ?_))
   ·have := Sp.l8see6 ((hs1 7).1 h); omega
   ·have := Sp.l8see6 ((hs1 6).1 h); omega
 subst h22
 have A15 := A14.pureE E15
 refine ⟨_, rfl, E15.keptP, ?_⟩
 refine (c_ded_Add k p 6 w15 A15.know A15.pool hW (fun b hb => (A15.oF b hb).2.2) ok1).mono ?_
 rintro _ w16 ⟨_, rfl, rfl, S2, F2, hK2, ok2, X16, f16⟩
 rw [show Sp.giveT Sp.l87 [4] 6 = [4, 6] by unfold Sp.giveT; rw [if_pos Sp.l8in.2.1]; rfl] at hK2 ok2
 obtain ⟨k16, A16⟩ := A15.add hK2 X16 f16
 refine ⟨_, rfl, k16, ?_⟩
 have hs2 : ∀ t, t ∈ Sp.wkeys S2 ↔ Sp.Seen Sp.l87 [4, 6] t := ok2.seen_iff
 have hnil : Lst (fun _ => False) w16 1 Sl.nil (tmr []) := ⟨rfl, fun i hi => by simp [tmr] at hi⟩
 have hnil4 : Lst (fun _ => False) w16 4 Sl.nil (([] : List Sp.Step).map strow) := ⟨rfl, fun i hi => by simp at hi⟩
 refine (c_ded_Check p Sl.nil Sl.nil [] [] 5 w16 A16.pool hW.ok hnil hnil4 (by simp) (by simp)).mono ?_
 rintro _ w17 ⟨r24, r25, rfl, hch, E17⟩
 have hc1 : Sp.check8 Sp.l87 [] [] 5 = (81, 0) := by kernel_rfl
 rw [hc1] at hch; cases hch
 have A17 := A16.pureE E17
 refine ⟨_, _, rfl, E17.keptP, ?_⟩
 have l18 : r18.len = l.length := by rw [hr18.rows.len]; simp
 rintro y1 rfl
 refine Br.t ?_ ?_
 ·have hpos : 0 < l.length := List.length_pos_iff.2 hne
  simp [Sp.l8in.1, Sp.l8in.2.1, l18, hpos]
 intro H6 w27 hs27
 have A27 := A17.hst hs27
 refine (c_ded_Derives k p 7 w27 hW ok2 A27.know A27.pool).mono ?_
 rintro _ w34 ⟨r30, rfl, hd30, E34⟩
 have h30 := hd30.2 (Sp.l8u_yes ((hs2 6).2 (.given (by simp))))
 subst h30
 have A34 := A27.pureE E34
 refine ⟨_, rfl, E34.keptP, ?_⟩
 unfold m_O_j1
 refine Br.t rfl ?_
 refine (c_ded_Sees k p 7 w34 A34.know).mono ?_
 rintro _ w33 ⟨r29, rfl, rfl, E33⟩
 have A33 := A34.pureE E33
 refine ⟨_, rfl, E33.keptP, ?_⟩
 have n7 : 7 ∉ Sp.wkeys S2 := fun h => by have := Sp.l8see (fun t ht => by simp at ht; exact ht) ((hs2 7).1 h); omega
 rw [show (!decide ((7 : Int) ∈ Sp.wkeys S2)) = true by simp [n7]]
 unfold m_O_j2
 refine Br.t rfl ?_
 refine (c_ded_Sees k p 1 w33 A33.know).mono ?_
 rintro _ w32 ⟨r28, rfl, rfl, E32⟩
 have A32 := A33.pureE E32
 refine ⟨_, rfl, E32.keptP, ?_⟩
 have y1 : (1 : Int) ∈ Sp.wkeys S2 := (hs2 1).2 (Sp.l8seen (by simp))
 rw [decide_eq_true y1]
 unfold m_O_j3
 refine Br.t rfl ?_
 intro H7 w28 hs28
 have A28 := A32.hst hs28
 refine (c_ded_Given k p w28 A28.know (by simp)).mono ?_
 rintro _ w31 ⟨r27, rfl, hr27⟩
 have A31 := A28.pureE hr27.pure
 refine ⟨_, rfl, hr27.kept, ?_⟩
 have l27 : r27.len = 2 := by rw [hr27.rows.len]; rfl
 rw [l27]
 unfold m_O_j4
 refine Br.t rfl ?_
 refine (c_ded_Add k p 99 w31 A31.know A31.pool hW (fun b hb => (A31.oF b hb).2.2) ok2).mono ?_
 rintro _ w29 ⟨_, rfl, rfl, S3, F3, hK3, ok3, X29, f29⟩
 obtain ⟨k29, A29⟩ := A31.add hK3 X29 f29
 refine ⟨_, rfl, k29, ?_⟩
 intro w30 hs30
 exact ⟨by simp [Sp.l8in.2.2], (A29.hst hs30).pure⟩
end Go.Proofs
end
section
namespace Go.Sp
theorem cntAll_snoc (ts : List Tree) (t : Tree) : cntAll (ts ++ [t]) = cntAll ts + cnt t := by
 induction ts with
 | nil => simp [cntAll]
 | cons a ts ih => rw [List.cons_append, cntAll, cntAll, ih]; omega
theorem make_few8 (L : Pool) (n : Node) : (make L n).2.2.length ≤ L.length + 1 := by
 rcases make_pool L n with e | ⟨_, e⟩ <;> rw [e] <;> simp
theorem grow_few8 (t : Tree) : ∀ L, (grow L t).2.2.length ≤ L.length + cnt t := by
 induction t using Tree.ind with
 | h k f t u x ks ih =>
  have : ∀ (ks : List Tree), (∀ i (hi : i < ks.length), ∀ L, (grow L ks[i]).2.2.length ≤ L.length + cnt ks[i]) → ∀ n i L, (growAll n i L ks).2.2.length ≤ L.length + 1 + cntAll ks := by
   intro ks
   induction ks with
   | nil => intro _ n i L; unfold growAll; have := make_few8 L n; simp only [cntAll]; omega
   | cons t ts iht =>
    intro hh n i L
    have h0 := hh 0 (by simp) L
    simp only [List.getElem_cons_zero] at h0
    unfold growAll
    simp only [cntAll]
    split
    ·simp only; omega
    ·have := iht (fun i hi => hh (i + 1) (by simpa using hi)) (if i = 0 then { n with a := (grow L t).1 } else { n with b := (grow L t).1 }) (i + 1) (grow L t).2.2
     omega
  intro L
  have := this ks ih ⟨k, f, t, u, x, 0, 0⟩ 0 L
  unfold grow
  rw [cnt]; omega
theorem of_few8 (L : Pool) (t : Tree) : (of L t).2.2.length ≤ L.length + cnt t := by
 have := grow_few8 t L
 unfold of
 split
 ·simp only; omega
 ·split
  ·simp only; omega
  ·exact this
end Go.Sp
end
section
open Go Go.SE
namespace Go.Sp
def poolStep (q : Pool × List Int) (t : Tree) : Pool × List Int := ((of q.1 t).2.2, q.2 ++ [(of q.1 t).1])
def poolAll (ts : List Tree) : Pool × List Int := ts.foldl poolStep ([], [])
theorem poolAll_ok (ts : List Tree) : Wf (poolAll ts).1 ∧ (poolAll ts).1.length ≤ cntAll ts ∧ (poolAll ts).2.length = ts.length := by
 have : ∀ (ts : List Tree) q, Wf q.1 → Wf (ts.foldl poolStep q).1 ∧ (ts.foldl poolStep q).1.length ≤ q.1.length + cntAll ts ∧ (ts.foldl poolStep q).2.length = q.2.length + ts.length := by
  intro ts
  induction ts with
  | nil => intro q h; exact ⟨h, by simp [cntAll], by simp⟩
  | cons t ts ih =>
   intro q h
   obtain ⟨h1, h2, h3⟩ := ih (poolStep q t) (of_wf h t)
   have := of_few8 q.1 t
   refine ⟨h1, ?_, ?_⟩
   ·rw [List.foldl_cons, cntAll]; unfold poolStep at h2 ⊢; simp only at h2; omega
   ·rw [List.foldl_cons, h3]; simp [poolStep]; omega
 obtain ⟨h1, h2, h3⟩ := this ts ([], []) Wf.nil
 exact ⟨h1, by unfold poolAll; simpa using h2, by unfold poolAll; simpa using h3⟩
end Go.Sp
namespace Go.Proofs
attribute [local irreducible] Calls
theorem c_law08_wide {S : NP} (ts : List Sp.Tree) (s : Sl) (w0 : World) (hT : TreeAt S w0 s (.mk 0 0 0 0 ⟨#[]⟩ ts)) (hS : ∀ b, S b → b < w0.heap.size) :
  Calls Tryz.prog 17 #[s.v] w0 (fun e w' => ∃ r : Bool, e = .returned (.bool r) ∧ ((r = false → ts.length ≤ 12 ∧ Sp.cntAll ts ≤ 400) ∧ Pure w0 w')) := by
 refine w_Q1 _ w0 (fun r w' => (r = false → ts.length ≤ 12 ∧ Sp.cntAll ts ≤ 400) ∧ Pure w0 w') ?_
 unfold m_Q1
 cases hT with
 | mk _ _ _ _ _ _ _ rs len fit row kid =>
 refine ⟨fun n i w' => ∃ j : Nat, i = j ∧ j ≤ ts.length ∧ j ≤ 13 ∧ n = (Sp.cntAll (ts.take j) : Nat) ∧ n < 400 ∧ Pure w0 w', fun _ i _ => (14 - i).toNat, ⟨0, rfl, Nat.zero_le _, by omega, by simp [Sp.cntAll], by omega, Ext.refl _⟩, ?_⟩
 rintro n _ wl ⟨j, rfl, hj, hj13, hn, hn4, E⟩
 unfold m_Q1_l1
 refine ⟨fun h => ?_, fun h => ⟨fun hr => ?_, E⟩⟩
 ·rw [Bool.and_eq_true] at h
  have hlt := lt_of_dec len h.1
  have h12 := of_decide_eq_true h.2
  obtain ⟨a, hat, hSa, hrow⟩ := row j hlt
  have hkid := kid j hlt
  have htk : ts.take (j + 1) = ts.take j ++ [ts[j]] := List.take_succ_eq_append_getElem hlt
  have hsn := Sp.cntAll_snoc (ts.take j) ts[j]
  rw [← htk] at hsn
  generalize ts[j] = x at *
  generalize rs j = sx at *
  obtain ⟨xk, xf, xt, xu, xx, xks⟩ := x
  have hrl : Row wl a (trow (.mk xk xf xt xu xx xks) sx) := E.row hrow (fun h => h)
  refine ⟨a, hat, _, _, _, _, _, sx, hrl, ?_⟩
  refine (c_ref05_Parts (.mk xk xf xt xu xx xks) sx 400 wl (by omega) (by omega) (hkid.pure E) (fun b hb => by have := hS b hb; have := E.size; omega)).mono ?_
  rintro _ w1 ⟨r, rfl, rfl, E1⟩
  obtain ⟨p1, p2, p3⟩ := Sp.parts_facts (.mk xk xf xt xu xx xks) 400 (by omega)
  generalize Sp.parts 400 (.mk xk xf xt xu xx xks) = r at *
  refine ⟨r, rfl, ?_⟩
  rw [IntWalk.i64_in _ (by omega), IntWalk.i64_in _ (by omega)]
  refine ⟨fun h => ⟨(fun h => by cases h), E.trans E1⟩, fun h => ?_⟩
  have h := of_decide_eq_false h
  have hc := p3 (by omega)
  refine ⟨⟨j + 1, by omega, hlt, by omega, ?_, by omega, E.trans E1⟩, by show (14 - ((j : Int) + 1)).toNat < (14 - (j : Int)).toNat; omega⟩
  rw [hsn]; omega
 ·have hr := of_decide_eq_false hr
  have hjl : j = ts.length := by
   rw [Bool.and_eq_false_iff] at h
   rcases h with h | h
   ·exact eq_of_dec len hj h
   ·have := of_decide_eq_false h; omega
  subst hjl
  rw [List.take_length] at hn
  exact ⟨by omega, by omega⟩
structure Pl3 (w0 : World) (H : NP) (w : World) (p q : Addr) (L1 L2 : Sp.Pool) (t : Sl) (ids : List Int) (F1 F2 : NP) : Prop where
 pure : Pure w0 w
 pool : PoolAt w p L1 F1
 ref : PoolR w q L2 F2
 ts : Rws w 30 1 t (tmr ids)
 o1 : ∀ b, F1 b → w0.heap.size ≤ b ∧ ¬ H b ∧ ¬ F2 b ∧ ¬ t.blk b
 o2 : ∀ b, F2 b → w0.heap.size ≤ b ∧ ¬ H b ∧ ¬ t.blk b
 o3 : ∀ b, t.blk b → w0.heap.size ≤ b ∧ ¬ H b
section
variable {w0 w w' : World} {H H' : NP} {p q : Addr} {L1 L2 : Sp.Pool} {t : Sl} {ids : List Int} {F1 F2 : NP}
theorem Pl3.pureE (h : Pl3 w0 H w p q L1 L2 t ids F1 F2) (E : Pure w w') : Pl3 w0 H w' p q L1 L2 t ids F1 F2 := ⟨h.pure.trans E, h.pool.pure E, h.ref.pure E, h.ts.pure E, h.o1, h.o2, h.o3⟩
theorem Pl3.hst (h : Pl3 w0 H w p q L1 L2 t ids F1 F2) (hs : Hst w0 H w H' w') : Pl3 w0 H' w' p q L1 L2 t ids F1 F2 := by
 have d : ∀ b, b < w.heap.size → ¬ H b → ¬ H' b := fun b h1 h2 => hs.disj (G := (· = b)) (fun c e => by subst e; exact ⟨h1, h2⟩) b rfl
 have d1 : ∀ b, F1 b → ¬ H' b := fun b hb => d b (h.pool.lt hb) (h.o1 b hb).2.1
 have d2 : ∀ b, F2 b → ¬ H' b := fun b hb => d b (h.ref.lt hb) (h.o2 b hb).2.1
 have d3 : ∀ b, t.blk b → ¬ H' b := fun b hb => d b (h.ts.lt hb) (h.o3 b hb).2
 exact ⟨h.pure.hst hs, h.pool.ext hs.ext d1, h.ref.ext hs.ext d2, h.ts.ext hs.ext d3, fun b hb => ⟨(h.o1 b hb).1, d1 b hb, (h.o1 b hb).2.2⟩, fun b hb => ⟨(h.o2 b hb).1, d2 b hb, (h.o2 b hb).2.2⟩, fun b hb => ⟨(h.o3 b hb).1, d3 b hb⟩⟩
theorem Pl3.of1 (h : Pl3 w0 H w p q L1 L2 t ids F1 F2) (hH : ∀ b, H b → b < w.heap.size) {L : Sp.Pool} {F : NP} (hP : PoolAt w' p L F) (hE : Ext F1 w w') (hF : ∀ b, F b → F1 b ∨ w.heap.size ≤ b) : Pl3 w0 H w' p q L L2 t ids F F2 := by
 refine ⟨h.pure.trans' hE (fun i hi hb => by have := (h.o1 i hb).1; omega), hP, h.ref.ext hE (fun b hb h1 => (h.o1 b h1).2.2.1 hb), h.ts.ext hE (fun b hb h1 => (h.o1 b h1).2.2.2 hb), fun b hb => ?_, h.o2, h.o3⟩
 rcases hF b hb with h1 | h1
 ·exact h.o1 b h1
 ·exact ⟨by have := h.pure.size; omega, fun hh => by have := hH b hh; omega, fun hh => by have := h.ref.lt hh; omega, fun hh => by have := h.ts.lt hh; omega⟩
theorem Pl3.of2 (h : Pl3 w0 H w p q L1 L2 t ids F1 F2) (hH : ∀ b, H b → b < w.heap.size) {L : Sp.Pool} {F : NP} (hP : PoolR w' q L F) (hE : Ext F2 w w') (hF : ∀ b, F b → F2 b ∨ w.heap.size ≤ b) : Pl3 w0 H w' p q L1 L t ids F1 F := by
 refine ⟨h.pure.trans' hE (fun i hi hb => by have := (h.o2 i hb).1; omega), h.pool.ext hE (fun b hb h1 => (h.o1 b hb).2.2.1 h1), hP, h.ts.ext hE (fun b hb h1 => (h.o2 b h1).2.2 hb), fun b hb => ?_, fun b hb => ?_, h.o3⟩
 ·refine ⟨(h.o1 b hb).1, (h.o1 b hb).2.1, fun hh => ?_, (h.o1 b hb).2.2.2⟩
  rcases hF b hh with h1 | h1
  ·exact (h.o1 b hb).2.2.1 h1
  ·have := h.pool.lt hb; omega
 ·rcases hF b hb with h1 | h1
  ·exact h.o2 b h1
  ·exact ⟨by have := h.pure.size; omega, fun hh => by have := hH b hh; omega, fun hh => by have := h.ts.lt hh; omega⟩
theorem Pl3.of3 (h : Pl3 w0 H w p q L1 L2 t ids F1 F2) (hH : ∀ b, H b → b < w.heap.size) {t' : Sl} {ids' : List Int} (hP : Rws w' 30 1 t' (tmr ids')) (hE : Ext t.blk w w') (hF : ∀ b, t'.blk b → t.blk b ∨ w.heap.size ≤ b) : Pl3 w0 H w' p q L1 L2 t' ids' F1 F2 := by
 refine ⟨h.pure.trans' hE (fun i hi hb => by have := (h.o3 i hb).1; omega), h.pool.ext hE (fun b hb h1 => (h.o1 b hb).2.2.2 h1), h.ref.ext hE (fun b hb h1 => (h.o2 b hb).2.2 h1), hP, fun b hb => ?_, fun b hb => ?_, fun b hb => ?_⟩
 ·refine ⟨(h.o1 b hb).1, (h.o1 b hb).2.1, (h.o1 b hb).2.2.1, fun hh => ?_⟩
  rcases hF b hh with h1 | h1
  ·exact (h.o1 b hb).2.2.2 h1
  ·have := h.pool.lt hb; omega
 ·refine ⟨(h.o2 b hb).1, (h.o2 b hb).2.1, fun hh => ?_⟩
  rcases hF b hh with h1 | h1
  ·exact (h.o2 b hb).2.2 h1
  ·have := h.ref.lt hb; omega
 ·rcases hF b hb with h1 | h1
  ·exact h.o3 b h1
  ·exact ⟨by have := h.pure.size; omega, fun hh => by have := hH b hh; omega⟩
end
theorem c_law08_pools {S : NP} (ts : List Sp.Tree) (s : Sl) (w0 : World) (hT : TreeAt S w0 s (.mk 0 0 0 0 ⟨#[]⟩ ts)) (hS : ∀ b, S b → b < w0.heap.size) (hn : ts.length ≤ 12) :
  Calls Tryz.prog 19 #[s.v] w0 (fun e w' => ∃ r1 : Option Addr, ∃ r2 : Option Addr, ∃ r3 : Sl, ∃ r4 : Bool, e = .returned (.tuple #[.pointer r1, .pointer r2, r3.v, .bool r4]) ∧ ∃ p q F1 F2, r1 = some p ∧ r2 = some q ∧ r4 = true ∧ Pl3 w0 None w' p q (Sp.poolAll ts).1 (Sp.poolAll ts).1 r3 (Sp.poolAll ts).2 F1 F2) := by
 suffices key : ∀ K : Option Addr → Option Addr → Sl → Bool → WP, (∀ p q F1 F2 H r3 w', Pl3 w0 H w' p q (Sp.poolAll ts).1 (Sp.poolAll ts).1 r3 (Sp.poolAll ts).2 F1 F2 → K (some p) (some q) r3 true w') → m_L1 s w0 K from
  w_L1 _ w0 _ (key _ (fun p q F1 F2 H r3 w' h => ⟨p, q, F1, F2, rfl, rfl, rfl, h.pure, h.pool, h.ref, h.ts, fun b hb => ⟨(h.o1 b hb).1, id, (h.o1 b hb).2.2⟩, fun b hb => ⟨(h.o2 b hb).1, id, (h.o2 b hb).2.2⟩, fun b hb => ⟨(h.o3 b hb).1, id⟩⟩))
 intro K hK
 have hnil : ∀ b, Sl.nil.blk b → False := fun b hb => by obtain ⟨a, h, _⟩ := hb; cases h
 cases hT with
 | mk _ _ _ _ _ _ _ rs len fit row kid =>
 unfold m_L1
 refine (c_New w0).mono ?_
 rintro _ w1 ⟨_, rfl, p, rfl, E1, F1, hP1, hF1⟩
 refine ⟨_, rfl, E1.keptP, ?_⟩
 refine (c_ref05_New w1).mono ?_
 rintro _ w2 ⟨_, rfl, q, F2, rfl, hP2, E2, hF2⟩
 refine ⟨_, rfl, E2.keptP, Br.f rfl ?_⟩
 have S0 : Pl3 w0 None w2 p q [] [] Sl.nil [] F1 F2 := ⟨E1.trans E2, hP1.pure E2, hP2, Rws.nil _ _ _,
  fun b hb => ⟨hF1 b hb, id, fun h2 => by have := hF2 b h2; have := hP1.lt hb; omega, hnil b⟩, fun b hb => ⟨by have := hF2 b hb; have := E1.size; omega, id, hnil b⟩, fun b hb => (hnil b hb).elim⟩
 refine ⟨fun t i H w' => ∃ j : Nat, i = j ∧ j ≤ ts.length ∧ ∃ F1 F2, Pl3 w0 H w' p q (Sp.poolAll (ts.take j)).1 (Sp.poolAll (ts.take j)).1 t (Sp.poolAll (ts.take j)).2 F1 F2, fun _ i _ => ((ts.length : Int) - i).toNat, ⟨0, rfl, Nat.zero_le _, F1, F2, S0⟩, ?_⟩
 rintro t _ Hl wl hl ⟨j, rfl, hj, F1, F2, hq⟩
 unfold m_L1_l1
 refine ⟨fun h => ?_, fun h => ?_⟩
 ·have hlt := lt_of_dec len h
  have htk : ts.take (j + 1) = ts.take j ++ [ts[j]] := List.take_succ_eq_append_getElem hlt
  obtain ⟨hW, _, hlens⟩ := Sp.poolAll_ok (ts.take j)
  rw [List.length_take, Nat.min_eq_left (by omega)] at hlens
  have hstep : Sp.poolAll (ts.take (j + 1)) = Sp.poolStep (Sp.poolAll (ts.take j)) ts[j] := by rw [htk]; unfold Sp.poolAll; rw [List.foldl_append]; rfl
  generalize Sp.poolAll (ts.take j) = Q at *
  obtain ⟨a, hat, hSa, hrow⟩ := row j hlt
  have hkid := kid j hlt
  generalize ts[j] = x at *
  generalize rs j = sx at *
  obtain ⟨xk, xf, xt, xu, xx, xks⟩ := x
  have hrl : Row wl a (trow (.mk xk xf xt xu xx xks) sx) := hq.pure.row hrow (fun h => h)
  refine ⟨a, hat, _, _, _, _, _, sx, hrl, ?_⟩
  refine (c_Of (S := S) p (.mk xk xf xt xu xx xks) sx wl (hkid.pure hq.pure) hq.pool hW.ok (fun b hb hh => by have := (hq.o1 b hb).1; have := hS b hh; omega) (fun b hb => by have := hS b hb; have := hq.pure.size; omega)).mono ?_
  rintro _ w3 ⟨r3, r4, rfl, h34, F1', hP3, E3, hF3⟩
  have k3 : Kept Hl wl w3 := E3.kept (fun b hb h1 => (hq.o1 b h1).2.1 hb)
  refine ⟨_, _, rfl, k3, ?_⟩
  have hq3 := hq.of1 (fun b hb => hl.lt b hb) hP3 E3 hF3
  have hl3 := hl.again k3
  have hr3 : Row w3 a (trow (.mk xk xf xt xu xx xks) sx) := hq3.pure.row hrow (fun h => h)
  refine ⟨a, hat, _, _, _, _, _, sx, hr3, ?_⟩
  refine (c_ref05_Of (S := S) q (.mk xk xf xt xu xx xks) sx w3 (hkid.pure hq3.pure) hq3.ref hW.ok (fun b hb hh => by have := (hq3.o2 b hb).1; have := hS b hh; omega) (fun b hb => by have := hS b hb; have := hq3.pure.size; omega)).mono ?_
  rintro _ w4 ⟨r5, r6, rfl, h56, F2', hP4, E4, hF4⟩
  have k4 : Kept Hl w3 w4 := E4.kept (fun b hb h1 => (hq3.o2 b h1).2.1 hb)
  refine ⟨_, _, rfl, k4, ?_⟩
  have hq4 := hq3.of2 (fun b hb => hl3.lt b hb) hP4 E4 hF4
  have hl4 := hl3.again k4
  injection h34 with e3 e4
  injection h56 with e5 e6
  refine Br.f (by rw [e4, e6, e3, e5]; simp) ?_
  intro H1 w6 hs6
  have hq6 := hq4.hst hs6
  intro pa w8 h8
  have E8 : Pure w6 w8 := Ext.new h8
  have hq8 := hq6.pureE E8
  have hs8 := hs6.here.again E8.keptP
  obtain ⟨s1, w9, hr9, hR9, E9, hb9⟩ := hq8.ts.append (P := Tryz.prog) (ty := 52) (c := 1) slT_tm (r := [.int .i64 r5]) (Box.of_new h8).row rfl rfl (by simp [tmr]; omega) (by simp [tmr, maxLen]; omega)
  have k9 : Kept H1 w8 w9 := E9.kept (fun b hb h1 => (hq8.o3 b h1).2 hb)
  refine ⟨s1, w9, hr9, k9, ?_⟩
  have hq9 := hq8.of3 (fun b hb => hs8.lt b hb) (ids' := Q.2 ++ [r5]) (by simpa [tmr] using hR9) E9 hb9
  rw [wrap_succ hlt (by omega)]
  refine ⟨⟨j + 1, rfl, hlt, F1', F2', ?_⟩, lt_dec hlt⟩
  rw [hstep]
  unfold Sp.poolStep
  rw [← e5]
  exact hq9
 ·have hge := eq_of_dec len hj h
  subst hge
  rw [List.take_length] at hq
  exact hK _ _ _ _ _ _ _ hq
end Go.Proofs
end
section
open Go Go.SE
namespace Go.Proofs
attribute [local irreducible] Calls
theorem copied {P : Program} {t e : TypeId} {sz bytes : Nat} (T : SlType P t e sz bytes) {w w1 : World} {ty : TypeId} {p : Addr} (hn : New w (.cells #[] e) p w1) {S : NP} {x : Sl} {qs : List (List Value)} (hx : Lst S w sz x qs) (hl : ∀ q ∈ qs, q.length = sz) (h1 : ∀ q ∈ qs, q.all oneCell = true) (hb : qs.length * bytes ≤ 140737488355328) (hm : qs.length ≤ maxLen) {H : NP} (hH : ∀ b, H b → b < w.heap.size) :
  ∃ s' w2, (Builtin.append_ #[t, t] ty #[(Sl.mk (some p) 0 0).v, x.v]).run P w1 = .ok s'.v w2 ∧ Rws w2 e sz s' qs ∧ Pure w w2 ∧ Kept H w1 w2 ∧ ∀ b, s'.blk b → w.heap.size ≤ b := by
 have E1 : Pure w w1 := Ext.new hn
 obtain ⟨s2, w2, hr, hR, hE, hb'⟩ := (Rws.empty (sz := sz) hn).appendL (P := P) (ty := ty) T (hx.pure E1) hl h1 (by simpa using hb) (by simpa using hm)
 have hp := hn.at_size
 have hp' : ∀ b, (Sl.mk (some p) 0 0).blk b → w.heap.size ≤ b := fun b hb => (by obtain ⟨a, ha, e⟩ := hb; cases ha; omega)
 exact ⟨s2, w2, hr, by simpa using hR, E1.trans' hE (fun i hi h => by have := hp' i h; omega), hE.kept (fun b hh hb => by have := hp' b hb; have := hH b hh; omega), fun b h => (hb' b h).elim (hp' b) (fun h => by have := E1.size; omega)⟩
structure KqAt (w0 : World) (H : NP) (w : World) (p q k : Addr) (L : Sp.Pool) (G : List Int) (S : List Sp.Way) (FP FR F : NP) : Prop where
 kn : KnAt w0 H w p k L G S FP F
 ref : PoolR w q L FR
 oR : ∀ b, FR b → ¬ H b
section
variable {w0 w w' : World} {H H' : NP} {p q k : Addr} {L : Sp.Pool} {G : List Int} {S : List Sp.Way} {FP FR F : NP}
theorem KqAt.pureE (h : KqAt w0 H w p q k L G S FP FR F) (E : Pure w w') : KqAt w0 H w' p q k L G S FP FR F := ⟨h.kn.pureE E, h.ref.pure E, h.oR⟩
theorem KqAt.hst (h : KqAt w0 H w p q k L G S FP FR F) (hs : Hst w0 H w H' w') : KqAt w0 H' w' p q k L G S FP FR F := by
 have x1 := hs.disj (G := FR) (fun b hb => ⟨h.ref.lt hb, h.oR b hb⟩)
 exact ⟨h.kn.hst hs, h.ref.ext hs.ext x1, x1⟩
theorem KqAt.start {w1 w2 w3 : World} {t : Sl} {ids : List Int} (hE : Pure w0 w1) (hs : Hst w0 H w1 H w1) (hq : Pl3 w1 None w2 p q L L t ids FP FR) (hk : KnowAt w3 k p G S F) (E : Pure w2 w3) (hF : ∀ b, F b → w2.heap.size ≤ b) : KqAt w0 H w3 p q k L G S FP FR F := by
 have z1 := hE.size; have z2 := hq.pure.size; have z3 := E.size
 refine ⟨⟨hq.pool.pure E, hk, (hE.trans hq.pure).trans E, fun b hb => ?_, fun b hb => ?_, (hs.again hq.pure.keptP).again E.keptP⟩, hq.ref.pure E, fun b hb hh => ?_⟩
 ·have := (hq.o1 b hb).1; exact ⟨by omega, fun hh => by have := hs.lt b hh; omega⟩
 ·have := hF b hb; exact ⟨by omega, fun hh => by have := hs.lt b hh; omega, fun hh => by have := hq.pool.lt hh; omega⟩
 ·have := (hq.o2 b hb).1; have := hs.lt b hh; omega
end
end Go.Proofs
end
section
open Go Go.SE
namespace Go.Proofs
attribute [local irreducible] Calls
theorem at_uniq {s : Sl} {i : Int} {n : Nat} {a b : Addr} (h : At s i n a) (k : At s i n b) : a = b := by
 obtain ⟨_, _, b1, hb1, rfl⟩ := h
 obtain ⟨_, _, b2, hb2, rfl⟩ := k
 rw [hb1] at hb2; cases hb2; rfl
theorem shows_of2 {k : Int} (h : (cond (k == 7) (k == 7) (k == 8)) = true) : Sp.showsK k = true := by
 unfold Sp.showsK; cases h7 : (k == 7) <;> cases h8 : (k == 8) <;> simp_all
theorem shows_not2 {k : Int} (h : (cond (k == 7) (k == 7) (k == 8)) = false) (h9 : (k == 9) = false) : Sp.showsK k = false := by
 unfold Sp.showsK; cases h7 : (k == 7) <;> cases h8 : (k == 8) <;> simp_all
theorem c_r08_Derived (x q : Addr) (w0 : World) {L : Sp.Pool} {G : List Int} {F FR : NP} (h : K8At w0 x q G F) (hP : PoolR w0 q L FR) (hW : Sp.Wf L) (hG : ∀ g ∈ G, Sp.inP L g = true) (hGn : G.length ≤ 100000) :
  Calls Tryz.prog 65 #[.pointer (some x)] w0 (fun e w' => ∃ r : Sl, e = .returned r.v ∧ ∃ D, RetO w0 4 1 (brw (L.length + 1) D) r w' ∧ ∀ t, Sp.inP L t = true → (D t = true ↔ Sp.Drv L (Sp.Seen L G) t)) := by
 suffices key : ∀ K : Sl → WP, (∀ r w' D, RetO w0 4 1 (brw (L.length + 1) D) r w' → (∀ t, Sp.inP L t = true → (D t = true ↔ Sp.Drv L (Sp.Seen L G) t)) → K r w') → m_J1 (some x) w0 K from
  w_J1 _ w0 _ (key _ (fun r w' D a b => ⟨D, a, b⟩))
 intro K hK
 unfold m_J1
 have hL := hW.ok.few
 refine (c_r08_seen x q w0 h hP hW hG hGn).mono ?_
 rintro _ w1 ⟨r1, rfl, V, hr, hV⟩
 have E1 := hr.pure
 refine ⟨r1, rfl, E1.keptP, ?_⟩
 intro p1 w2 h2
 obtain ⟨s1, w3, hr3, R3, X3, k3, o3⟩ := copied (P := Tryz.prog) (ty := 117) slT_bool h2 hr.rows.lst (brw_sz _ _) (brw_one _ _) (by rw [brw_len]; omega) (by rw [brw_len]; simp [maxLen]; omega) (H := None) (fun b h => h.elim)
 refine ⟨s1, w3, hr3, k3, ?_⟩
 have hl1 : r1.len = L.length + 1 := by rw [hr.rows.len, brw_len]
 have E3 := E1.trans X3
 refine ⟨fun t H w' => ∃ j : Nat, t = (j : Int) + 1 ∧ j ≤ L.length ∧ Pure w0 w' ∧ Own H w' 4 1 r1 (brw (L.length + 1) V) ∧ ∃ D, Own H w' 4 1 s1 (brw (L.length + 1) D) ∧ (∀ u, 1 ≤ u → u < t → (D u = true ↔ Sp.Drv L (Sp.Seen L G) u)) ∧ ∀ u, t ≤ u → D u = V u, fun t _ => ((L.length : Int) + 1 - t).toNat,
  ⟨0, by simp, Nat.zero_le _, E3, ⟨hr.rows.pure X3, fun b _ h => h⟩, V, ⟨R3, fun b _ h => h⟩, fun u h1 h2 => by omega, fun u _ => rfl⟩, ?_⟩
 rintro _ Hl wl hl ⟨j, rfl, hj, El, Or, D, Os, hD1, hD2⟩
 unfold m_J1_l1
 refine ⟨fun hc => ?_, fun hc => ?_⟩
 ·have hc := of_decide_eq_true hc
  have hlt : j < L.length := by omega
  have hin : Sp.inP L ((j : Int) + 1) = true := Sp.inP_iff.2 ⟨by omega, by omega⟩
  have hwr : IntKind.i64.wrap ((j : Int) + 1 + 1) = ((j + 1 : Nat) : Int) + 1 := by rw [IntWalk.i64_in _ (by omega)]; omega
  have hmu : ∀ y : Int, y = ((j + 1 : Nat) : Int) + 1 → ((L.length : Int) + 1 - y).toNat < ((L.length : Int) + 1 - ((j : Int) + 1)).toNat := fun y e => by omega
  generalize ht : (j : Int) + 1 = t at *
  have hVt := hV t hin
  have hDt : D t = V t := hD2 t (Int.le_refl _)
  have t1 : 1 ≤ t := by omega
  have tL : t ≤ L.length := by omega
  obtain ⟨sg, h8, hF⟩ := h
  have h8' : K8At w0 x q G F := ⟨sg, h8, hF⟩
  refine ⟨x, rfl, _, (h8.box.pure El).cell0, ?_⟩
  refine (c_ref05_Node q t wl (hP.pure El) hW.ok).mono ?_
  rintro _ w4 ⟨nk, nf, nt, nu, nx, na, nb, ok, rfl, ⟨hn, _⟩, E4⟩
  refine ⟨_, _, _, _, _, _, _, _, rfl, E4.keptP, ?_⟩
  have hk1 : (Sp.nodeOf L t).kind = nk := by rw [← hn]
  have hfr : (Sp.nodeOf L t).frm = nf := by rw [← hn]
  have hto : (Sp.nodeOf L t).to = nt := by rw [← hn]
  have ha : (Sp.nodeOf L t).a = na := by rw [← hn]
  have hb : (Sp.nodeOf L t).b = nb := by rw [← hn]
  have El4 := El.trans E4
  have hs4 : Hst w0 Hl w4 Hl w4 := hl.again E4.keptP
  have Or4 := Or.pure E4
  have Os4 := Os.pure E4
  obtain ⟨a0, at0, _, _⟩ := brw_get Os4.rows (t := t) (by omega) (by omega)
  have rd : ∀ {H : NP} {w : World} (y : Int), Own H w 4 1 s1 (brw (L.length + 1) D) → 0 ≤ y → y ≤ L.length → ∃ a, At s1 y 1 a ∧ w.cell? a = some (.bool (D y)) := fun y O h0 hy => by
   obtain ⟨a, q1, _, q2⟩ := brw_get O.rows (t := y) h0 (by omega); exact ⟨a, q1, q2⟩
  have rd0 : ∀ {H : NP} {w : World}, Own H w 4 1 s1 (brw (L.length + 1) D) → w.cell? a0 = some (.bool (D t)) := fun O => by
   obtain ⟨a, q1, q2⟩ := rd t O (by omega) tL; rw [at_uniq at0 q1]; exact q2
  have put : ∀ {H : NP} {w : World} (b : Bool), Pure w0 w → Own H w 4 1 r1 (brw (L.length + 1) V) → Own H w 4 1 s1 (brw (L.length + 1) D) → (b = true ↔ Sp.Drv L (Sp.Seen L G) t) → CanW w a0 ∧ ¬ H a0.block ∧ ∀ w' : World, w' = w.setCell a0 (.bool b) →
    (∃ j : Nat, IntKind.i64.wrap (t + 1) = (j : Int) + 1 ∧ j ≤ L.length ∧ Pure w0 w' ∧ Own H w' 4 1 r1 (brw (L.length + 1) V) ∧ ∃ D, Own H w' 4 1 s1 (brw (L.length + 1) D) ∧ (∀ u, 1 ≤ u → u < IntKind.i64.wrap (t + 1) → (D u = true ↔ Sp.Drv L (Sp.Seen L G) u)) ∧ ∀ u, IntKind.i64.wrap (t + 1) ≤ u → D u = V u) ∧ ((L.length : Int) + 1 - IntKind.i64.wrap (t + 1)).toNat < ((L.length : Int) + 1 - t).toNat := by
   intro H w b E Or Os hb
   obtain ⟨a, q1, hblk, cw, hput⟩ := brw_put Os.rows (t := t) (by omega) (by omega)
   have := at_uniq q1 at0
   subst this
   refine ⟨cw, Os.vis _ hblk, ?_⟩
   rintro _ rfl
   obtain ⟨R', X'⟩ := hput b
   have hdis : ∀ c, r1.blk c → ¬ s1.blk c := fun c hc hs => by
    have := hr.rows.lt hc; have := o3 c hs; omega
   refine ⟨⟨j + 1, hwr, hlt, E.trans' X' (fun i hi hb => by have := o3 i hb; have := E1.size; omega), ⟨Or.rows.ext X' hdis, Or.vis⟩, _, ⟨R', Os.vis⟩, fun u h1 h2 => ?_, fun u hu => ?_⟩, hmu _ hwr⟩
   ·rw [hwr] at h2
    simp only [Sp.upd]
    split
    ·rename_i e; rw [e]; exact hb
    ·exact hD1 u h1 (by omega)
   ·rw [hwr] at hu
    simp only [Sp.upd]
    rw [if_neg (by omega)]
    exact hD2 u (by omega)
  have kidv : ∀ k, Sp.inP L k = true → k < t → (D k = true ↔ Sp.Drv L (Sp.Seen L G) k) := fun k hk hlt => hD1 k (Sp.inP_iff.1 hk).1 hlt
  rintro y1 rfl
  have hy : (cond ((nk : Int) == 1) ((nk : Int) == 1) (cond ((nk : Int) == 2) ((nk : Int) == 2) ((nk : Int) == 3))) = Sp.freeK nk := by
   unfold Sp.freeK; cases (nk == 1) <;> cases (nk == 2) <;> simp
  rw [hy]
  have seenD : D t = true → Sp.Drv L (Sp.Seen L G) t := fun h => .seen (hVt.1 (hDt ▸ h))
  have unseen : D t = false → ¬ Sp.Seen L G t := fun h hs => by have := hVt.2 hs; rw [← hDt, h] at this; cases this
  refine ⟨fun hf => ?_, fun hf => ⟨fun k4 => ?_, fun k4 => ⟨fun k5 => ?_, fun k5 => ?_⟩⟩⟩
  ·refine ⟨a0, at0, ?_⟩
   intro H2 w7 hs7
   exact put true (El4.hst hs7) (Or4.hst hs7) (Os4.hst hs7) ⟨fun _ => .free (by rw [hk1]; exact hf), fun _ => rfl⟩
  ·have k4 : nk = 4 := by simpa using k4
   have hkid := Sp.kids4 hW hin (by rw [hk1]; exact k4)
   rw [ha, hb] at hkid
   have na1 := Sp.inP_iff.1 hkid.1.1
   have nb1 := Sp.inP_iff.1 hkid.2.1
   have hda := kidv na hkid.1.1 hkid.1.2
   have hdb := kidv nb hkid.2.1 hkid.2.2
   have inv : D t = false → (Sp.Drv L (Sp.Seen L G) t ↔ Sp.Drv L (Sp.Seen L G) na ∧ Sp.Drv L (Sp.Seen L G) nb) := fun hdt => by
    constructor
    ·intro hd
     rcases hd.inv with h | h | ⟨_, h1, h2⟩ | ⟨h, _⟩ | ⟨h, _⟩
     ·exact absurd h (unseen hdt)
     ·rw [hk1, hf] at h; cases h
     ·rw [ha] at h1; rw [hb] at h2; exact ⟨h1, h2⟩
     ·rw [hk1, k4] at h; cases h
     ·rw [hk1, k4] at h; cases h
    ·intro h; exact .pair (by rw [hk1]; exact k4) (by rw [ha]; exact h.1) (by rw [hb]; exact h.2)
   refine ⟨a0, at0, ?_⟩
   intro H2 w7 hs7
   have E7 := El4.hst hs7
   have Or7 := Or4.hst hs7
   have Os7 := Os4.hst hs7
   refine ⟨_, rd0 Os7, fun hv => ⟨a0, at0, put true E7 Or7 Os7 ⟨fun _ => seenD hv, fun _ => rfl⟩⟩, fun hv => ?_⟩
   obtain ⟨a5, at5, c5⟩ := rd na Os7 (by omega) (by omega)
   refine ⟨a5, at5, _, c5, fun hva => ?_, fun hva => ⟨a0, at0, put false E7 Or7 Os7 ?_⟩⟩
   ·obtain ⟨a6, at6, c6⟩ := rd nb Os7 (by omega) (by omega)
    refine ⟨a6, at6, _, c6, a0, at0, put _ E7 Or7 Os7 ?_⟩
    rw [inv hv, hdb]; exact ⟨fun h => ⟨hda.1 hva, h⟩, fun h => h.2⟩
   ·rw [inv hv]; exact ⟨(fun h => by cases h), fun h => by have := hda.2 h.1; rw [hva] at this; cases this⟩
  ·have k4 : ¬ nk = 4 := by simpa using k4
   have k5 : nk = 5 := by simpa using k5
   have hkid := Sp.kids5 hW hin (by rw [hk1]; exact k5)
   rw [ha] at hkid
   have na1 := Sp.inP_iff.1 hkid.1
   have hda := kidv na hkid.1 hkid.2
   refine ⟨a0, at0, ?_⟩
   intro H2 w7 hs7
   have E7 := El4.hst hs7
   have Or7 := Or4.hst hs7
   have Os7 := Os4.hst hs7
   refine ⟨_, rd0 Os7, fun hv => ⟨a0, at0, put true E7 Or7 Os7 ⟨fun _ => seenD hv, fun _ => rfl⟩⟩, fun hv => ?_⟩
   obtain ⟨a6, at6, c6⟩ := rd na Os7 (by omega) (by omega)
   refine ⟨a6, at6, _, c6, a0, at0, put _ E7 Or7 Os7 ?_⟩
   rw [hda]
   constructor
   ·intro h; exact .hash (by rw [hk1]; exact k5) (by rw [ha]; exact h)
   ·intro hd
    rcases hd.inv with h | h | ⟨h, _⟩ | ⟨_, h⟩ | ⟨h, _⟩
    ·exact absurd h (unseen hv)
    ·rw [hk1, hf] at h; cases h
    ·rw [hk1, k5] at h; cases h
    ·rw [ha] at h; exact h
    ·rw [hk1, k5] at h; cases h
  ·have k4 : ¬ nk = 4 := by simpa using k4
   have k5 : ¬ nk = 5 := by simpa using k5
   have sgn : ∀ (who : Int) (H : NP) (w : World), Sp.showsK nk = true → who = Sp.whoOf (Sp.nodeOf L t) → Hst w0 H w H w → Pure w0 w → Own H w 4 1 r1 (brw (L.length + 1) V) → Own H w 4 1 s1 (brw (L.length + 1) D) →
     ∃ v7 : Bool, w.cell? a0 = some (.bool v7) ∧ Br v7 (∃ a14 : Addr, At s1 t 1 a14 ∧ CanW w a14 ∧ ¬ H a14.block ∧ ∀ w15 : World, w15 = w.setCell a14 (.bool true) →
       (∃ j : Nat, IntKind.i64.wrap (t + 1) = (j : Int) + 1 ∧ j ≤ L.length ∧ Pure w0 w15 ∧ Own H w15 4 1 r1 (brw (L.length + 1) V) ∧ ∃ D, Own H w15 4 1 s1 (brw (L.length + 1) D) ∧ (∀ u, 1 ≤ u → u < IntKind.i64.wrap (t + 1) → (D u = true ↔ Sp.Drv L (Sp.Seen L G) u)) ∧ ∀ u, IntKind.i64.wrap (t + 1) ≤ u → D u = V u) ∧ ((L.length : Int) + 1 - IntKind.i64.wrap (t + 1)).toNat < ((L.length : Int) + 1 - t).toNat)
      (∃ a15 : Addr, At s1 na 1 a15 ∧ ∃ v8 : Bool, w.cell? a15 = some (.bool v8) ∧ Br v8
       (Calls Tryz.prog 101 #[.pointer (some x), r1.v, .int .i64 who] w (fun e w16 => ∃ r3 : Bool, e = .returned (.bool r3) ∧ Kept H w w16 ∧ ∃ a16 : Addr, At s1 t 1 a16 ∧ CanW w16 a16 ∧ ¬ H a16.block ∧ ∀ w17 : World, w17 = w16.setCell a16 (.bool r3) →
        (∃ j : Nat, IntKind.i64.wrap (t + 1) = (j : Int) + 1 ∧ j ≤ L.length ∧ Pure w0 w17 ∧ Own H w17 4 1 r1 (brw (L.length + 1) V) ∧ ∃ D, Own H w17 4 1 s1 (brw (L.length + 1) D) ∧ (∀ u, 1 ≤ u → u < IntKind.i64.wrap (t + 1) → (D u = true ↔ Sp.Drv L (Sp.Seen L G) u)) ∧ ∀ u, IntKind.i64.wrap (t + 1) ≤ u → D u = V u) ∧ ((L.length : Int) + 1 - IntKind.i64.wrap (t + 1)).toNat < ((L.length : Int) + 1 - t).toNat))
       (∃ a17 : Addr, At s1 t 1 a17 ∧ CanW w a17 ∧ ¬ H a17.block ∧ ∀ w18 : World, w18 = w.setCell a17 (.bool false) →
        (∃ j : Nat, IntKind.i64.wrap (t + 1) = (j : Int) + 1 ∧ j ≤ L.length ∧ Pure w0 w18 ∧ Own H w18 4 1 r1 (brw (L.length + 1) V) ∧ ∃ D, Own H w18 4 1 s1 (brw (L.length + 1) D) ∧ (∀ u, 1 ≤ u → u < IntKind.i64.wrap (t + 1) → (D u = true ↔ Sp.Drv L (Sp.Seen L G) u)) ∧ ∀ u, IntKind.i64.wrap (t + 1) ≤ u → D u = V u) ∧ ((L.length : Int) + 1 - IntKind.i64.wrap (t + 1)).toNat < ((L.length : Int) + 1 - t).toNat)) := by
    rintro _ H w h7 rfl hs E Or Os
    obtain ⟨x4, x5, _, xf⟩ := Sp.shows_ne h7
    have hkid := Sp.kids7 hW hin (by rw [hk1]; exact h7)
    rw [ha] at hkid
    have na1 := Sp.inP_iff.1 hkid.1
    have hda := kidv na hkid.1 hkid.2
    have inv : D t = false → (Sp.Drv L (Sp.Seen L G) t ↔ Sp.Drv L (Sp.Seen L G) na ∧ (Sp.keyOf L (Sp.whoOf (Sp.nodeOf L t))).2 = true ∧ Sp.Seen L G (Sp.keyOf L (Sp.whoOf (Sp.nodeOf L t))).1) := fun hdt => by
     constructor
     ·intro hd
      rcases hd.inv with h | h | ⟨h, _⟩ | ⟨h, _⟩ | ⟨_, h1, h2, h3⟩
      ·exact absurd h (unseen hdt)
      ·rw [hk1, xf] at h; cases h
      ·rw [hk1] at h; exact absurd h x4
      ·rw [hk1] at h; exact absurd h x5
      ·rw [ha] at h1; exact ⟨h1, h2, h3⟩
     ·rintro ⟨h1, h2, h3⟩; exact .signed (by rw [hk1]; exact h7) (by rw [ha]; exact h1) h2 h3
    refine ⟨_, rd0 Os, fun hv => ⟨a0, at0, put true E Or Os ⟨fun _ => seenD hv, fun _ => rfl⟩⟩, fun hv => ?_⟩
    obtain ⟨a5, at5, c5⟩ := rd na Os (by omega) (by omega)
    refine ⟨a5, at5, _, c5, fun hva => ?_, fun hva => ⟨a0, at0, put false E Or Os ?_⟩⟩
    ·refine (c_r08_key x q _ r1 w (h8'.pure E) (hP.pure E) hW.ok Or.rows).mono ?_
     rintro _ w16 ⟨r3, rfl, rfl, E16⟩
     refine ⟨_, rfl, E16.keptP, a0, at0, put _ (E.trans E16) (Or.pure E16) (Os.pure E16) ?_⟩
     rw [inv hv, Bool.and_eq_true]
     constructor
     ·rintro ⟨g1, g2⟩; exact ⟨hda.1 hva, g1, (hV _ (Sp.keyOf_ok g1).1).1 g2⟩
     ·rintro ⟨_, g1, g2⟩; exact ⟨g1, (hV _ (Sp.keyOf_ok g1).1).2 g2⟩
    ·rw [inv hv]; exact ⟨(fun h => by cases h), fun h => by have := hda.2 h.1; rw [hva] at this; cases this⟩
   refine ⟨fun k7 => ?_, fun k7 => ⟨fun k9 => ?_, fun k9 => ?_⟩⟩
   ·have h7 : Sp.showsK nk = true := shows_of2 k7
    have h9 : ¬ nk = 9 := fun e => by rw [e] at k7; cases k7
    refine ⟨a0, at0, ?_⟩
    intro H3 w14 hs14
    exact sgn nf H3 w14 h7 (by unfold Sp.whoOf; rw [hk1, if_neg h9, hfr]) hs14.here (El4.hst hs14) (Or4.hst hs14) (Os4.hst hs14)
   ·have k9 : nk = 9 := by simpa using k9
    refine ⟨a0, at0, ?_⟩
    intro H3 w14 hs14
    exact sgn nt H3 w14 (by rw [k9]; rfl) (by unfold Sp.whoOf; rw [hk1, if_pos k9, hto]) hs14.here (El4.hst hs14) (Or4.hst hs14) (Os4.hst hs14)
   ·intro H3 w14 hs14
    have h7 : Sp.showsK nk = false := shows_not2 k7 k9
    have hdt : D t = true ↔ Sp.Drv L (Sp.Seen L G) t := by
     refine ⟨seenD, fun hd => ?_⟩
     rcases hd.inv with h | h | ⟨h, _⟩ | ⟨h, _⟩ | ⟨h, _⟩
     ·rw [hDt]; exact hVt.2 h
     ·rw [hk1, hf] at h; cases h
     ·rw [hk1] at h; exact absurd h k4
     ·rw [hk1] at h; exact absurd h k5
     ·rw [hk1, h7] at h; cases h
    refine ⟨⟨j + 1, hwr, hlt, El4.hst hs14, Or4.hst hs14, D, Os4.hst hs14, fun u h1 h2 => ?_, fun u hu => hD2 u (by rw [hwr] at hu; omega)⟩, hmu _ hwr⟩
    rw [hwr] at h2
    by_cases e : u = t
    ·rw [e]; exact hdt
    ·exact hD1 u h1 (by omega)
 ·have hc := of_decide_eq_false hc
  refine hK s1 wl D ⟨Os.rows, fun b hb => by have := o3 b hb; have := E1.size; omega, El⟩ (fun t ht => hD1 t (Sp.inP_iff.1 ht).1 (by have := (Sp.inP_iff.1 ht).2; omega))
end Go.Proofs
end
section
open Go Go.SE
namespace Go.SE
theorem Ext.putObj (w : World) (r : Nat) (o : Obj) : Ext (· = r) w (w.putObj r o) := ⟨rfl, rfl, rfl, by simp, fun b _ hne => World.putObj_heap_other hne⟩
abbrev Yld (P : Program) (l : Nat) (args : Array Value) (w : World) (R : Ending → WP) : Prop := YieldAt Fence.wide 0 P l args w R
def IterC (P : Program) (gf : FuncId) (lb : Array Value) {α : Type} (encs : α → Array Value) (xs : List α) (Rd : WP) (w : World) : Prop :=
 ∀ (l : Nat) (J Jx : List α → NP → WP) (W : World), Pure w W →
  (∀ pre X A, J pre X A → Rd A) →
  (∀ pre X A X' A', J pre X A → Hst W X A X' A' → J pre X' A') →
  (∀ pre X A X' A', Jx pre X A → Hst W X A X' A' → Jx pre X' A') →
  (∀ pre y X A, J pre X A → Hst W X A X A → (∃ post, xs = pre ++ y :: post) → Yld P l (encs y) A (fun e A' => (e = .returned (.bool true) ∧ Kept X A A' ∧ J (pre ++ [y]) X A') ∨ (e = .returned (.bool false) ∧ Kept X A A' ∧ Jx (pre ++ [y]) X A'))) →
  J [] None W →
  Calls P gf (#[.func (.yield l) #[] #[]] ++ lb) W (fun e A => (∃ v, e = .returned v) ∧ ∃ X, Hst W X A X A ∧ (J xs X A ∨ ∃ pre, Jx pre X A))
def setPs : List Nat → List Value → Env → Env
 | p :: ps, v :: vs, ρ => setPs ps vs (upd ρ p v)
 | _, _, ρ => ρ
theorem rep_setPs {n : Nat} : ∀ (ps : List Nat) (vs : List Value) (ρ : Env) (t : Array Value), (∀ p ∈ ps, p < n) → Rep [] n ρ { tmps := t, defers := [] } →
  Rep [] n (setPs ps vs ρ) { tmps := (ps.zip vs).foldl (fun t (x : Nat × Value) => t.setIfInBounds x.1 x.2) t, defers := [] }
 | [], vs, ρ, t, _, h => by cases vs <;> exact h
 | p :: ps, [], ρ, t, _, h => h
 | p :: ps, v :: vs, ρ, t, hp, h => by
  rw [List.zip_cons_cons, List.foldl_cons]
  exact rep_setPs ps vs _ _ (fun q hq => hp q (by simp [hq])) (h.put (d := some p) (fun k hk => by cases hk; exact hp p (by simp)) v)
def roundE (id : Nat) (Y : NP) (A : World) (I Ix Ir : NP → WP) : Exit → Env → WP
 | .normal, _, A' => Kept Y A A' ∧ I Y A'
 | .exit id', _, A' => id' = id ∧ Kept Y A A' ∧ Ix Y A'
 | .ret, _, A' => Kept Y A A' ∧ Ir Y A'
 | _, _, _ => False
def afterE (D : Nat) (Q : Exit → Env → WP) : Exit → Env → WP
 | .ret, ρ, w => w.heap[D]? = some (.deferred (some [])) ∧ Q .ret ρ (w.putObj D (.deferred none))
 | _, _, _ => False
theorem Kept.trans {H : NP} {a b c : World} (h : Kept H a b) (k : Kept H b c) : Kept H a c := ⟨Nat.le_trans h.size k.size, fun i hi hH => (k.keep i (Nat.lt_of_lt_of_le hi h.size) hH).trans (h.keep i hi hH)⟩
theorem Kept.mono {H H' : NP} {a b : World} (h : Kept H a b) (hs : ∀ b, H' b → H b) : Kept H' a b := ⟨h.size, fun i hi hH => h.keep i hi (hs i hH)⟩
structure RngI {α : Type} (w0 : World) (Rd : WP) (I Ix Ir : List α → NP → WP) : Prop where
 rd : ∀ pre Y A, I pre Y A → Rd A
 i : ∀ pre Y A Y' A', I pre Y A → Hst w0 Y A Y' A' → I pre Y' A'
 x : ∀ pre Y A Y' A', Ix pre Y A → Hst w0 Y A Y' A' → Ix pre Y' A'
 r : ∀ pre Y A Y' A', Ir pre Y A → Hst w0 Y A Y' A' → Ir pre Y' A'
def wpB (P : Program) (n : Nat) (c y : Code) (Q : Exit → Env → WP) (ρ : Env) (w : World) : Prop := ∀ a, Rep [] n ρ a → c.wpIn (fen none) 0 P (Exit.then (fun a w => y.wpIn (fen none) 0 P (lift ⟨none, []⟩ n Q) a w) (lift ⟨none, []⟩ n Q)) a w
theorem wpE_seqC {P : Program} {n : Nat} {Q : Exit → Env → WP} {ρ : Env} {w : World} {a c y : Code} (h : wpE (x := ⟨none, []⟩) P n a (thenE (fun ρ w => wpB P n c y Q ρ w) Q) ρ w) : wpE (x := ⟨none, []⟩) P n (.seq (.seq a c) y) Q ρ w := fun a ha =>
 wpIn_seq (wpIn_seq (wpIn_mono (h a ha) (fun e a w hl => by
  cases e with
  | normal => obtain ⟨ρ', hr, hq⟩ := lift_norm hl; exact hq a hr
  | _ => exact hl)))
theorem af_r {D : Nat} {Q : Exit → Env → WP} {ρ : Env} {w : World} (h1 : w.heap[D]? = some (.deferred (some []))) (h : ∀ w1, w1 = w.putObj D (.deferred none) → Q .ret ρ w1) : afterE D Q .ret ρ w := ⟨h1, h _ rfl⟩
theorem rd_n {id : Nat} {Y : NP} {A A' : World} {I Ix Ir : NP → WP} {ρ : Env} (h : Kept Y A A' ∧ I Y A') : roundE id Y A I Ix Ir .normal ρ A' := h
theorem HBZ.behind {H Y : NP} {w A : World} {l : List HBx} {D : Nat} (hb : HB H w l) (hk : Kept H w A) (hH : ∀ b, H b → Y b) (hD : Y D) (hDe : A.heap[D]? = some (.deferred (some []))) : HBZ [(D, .deferred (some []))] Y A l :=
 ⟨(hb.kept hk).box, fun x hx => hH _ (hb.hid x hx), hb.ne, fun x hx => by
  cases List.mem_singleton.1 hx; exact ⟨hD, hDe, rfl⟩⟩
theorem HBZ.leave {w0 wv : World} {Hv H : NP} {w : World} {l : List HBx} {D : Nat} (hb : HBZ [(D, .deferred (some []))] H w l) (hs : Hst w0 Hv wv H w) {w1 : World} (h1 : w1 = w.putObj D (.deferred none)) : Hst w0 Hv wv H w1 ∧ HB H w1 l := by
 have hz := hb.fz _ (List.mem_singleton.2 rfl)
 have E : Ext (· = D) w w1 := by rw [h1]; exact Ext.putObj w D _
 refine ⟨⟨h1 ▸ hs.ext.trans' (Ext.putObj w D _) (fun b _ e => by subst e; exact hz.1), hs.sub, hs.new, hs.old, fun b hb => Nat.lt_of_lt_of_le (hs.lt b hb) E.size, Nat.le_trans hs.base E.size⟩, ?_⟩
 refine ⟨fun x hx => (hb.box x hx).ext E (fun e => ?_), hb.hid, hb.ne, fun x hx => by cases hx⟩
 have h2 := (hb.box x hx).blk
 rw [e, hz.2.1] at h2
 cases h2
theorem HBZ.dead {H : NP} {w : World} {l : List HBx} {D : Nat} (hb : HBZ [(D, .deferred (some []))] H w l) : w.heap[D]? = some (.deferred (some [])) := (hb.fz _ (List.mem_singleton.2 rfl)).2.1
theorem x_yield {P : Program} {ε : Operand → Value} {w w' : World} {d : Option Tmp} {ty : TypeId} {pos : String} {aft : Array Edge} {g : Option (Nat × Bool)} {l : Nat} {x : Operand} {v : Value} {c : List Operand} {ts : Array TypeId} {args : Array Value} {r : Next} (hx : ε x = v) (hv : v = .func (.yield l) #[] #[]) (ha : (c.map ε).toArray = args) (hr : (Instr.yield l args).run P w = .ok r w') :
  (execOp ε ⟨d, .call ⟨.value x, c.toArray, ts⟩, ty, pos, aft, g⟩).run P w = .ok r w' := by
 subst hv; subst ha
 simp [execOp, resolve, hx, Deferred.ofValue, invoke, hr]
theorem st_yield {P : Program} {ops : Array Oper} {Q : Env → WP} {ρ : Env} {w : World} {rest : List Oper} {d : Option Tmp} {ty : TypeId} {pos : String} {aft : Array Edge} {g : Option (Nat × Bool)} {l : Nat} {x : Operand} {v : Value} {c : List Operand} {ts : Array TypeId} {args : Array Value}
  (hw : Region.wanted ⟨d, .call ⟨.value x, c.toArray, ts⟩, ty, pos, aft, g⟩ (yieldedE ops ρ) = true) (hx : evE ρ x = v) (hv : v = .func (.yield l) #[] #[]) (ha : (c.map (evE ρ)).toArray = args)
  (h : Yld P l args w (fun e w'' => ∃ v, e = .returned v ∧ wpL P ops Q rest (put ρ d v) w'')) : wpL P ops Q (⟨d, .call ⟨.value x, c.toArray, ts⟩, ty, pos, aft, g⟩ :: rest) ρ w := by
 obtain ⟨fn, tmps, assign, body, hr, hR⟩ := h
 unfold wpL
 rw [if_pos hw]
 unfold yld
 rw [x_yield hx hv ha hr]
 exact hR
theorem Yld.mono {P : Program} {l : Nat} {args : Array Value} {w : World} {R R' : Ending → WP} (h : Yld P l args w R) (hr : ∀ e w, R e w → R' e w) : Yld P l args w R' := by
 obtain ⟨fn, tmps, assign, body, h1, h2⟩ := h
 exact ⟨fn, tmps, assign, body, h1, RoundIn.mono h2 hr⟩
section
variable {P : Program} {n : Nat} {Q : Exit → Env → WP} {ρ : Env} {w w0 : World} {H Hv : NP} {wv : World}
theorem wpB_range {id : Nat} {g : Operand} {ps : Array Tmp} {assign body y : Code} {gf : FuncId} {lb : Array Value} {α : Type} {encs : α → Array Value} {xs : List α} {Rd : WP}
  (hg : evE ρ g = .func (.func gf) #[] lb) (eg : ∀ args w, (callFunc gf args).run P w = .ok (.enter gf args) w) (hit : IterC P gf lb encs xs Rd w) (hps : ∀ z, (encs z).size = ps.size) (hpn : ∀ p ∈ ps.toList, p < n)
  (hs : Hst w0 Hv wv H w) (I Ix Ir : List α → NP → WP) (hRI : RngI w0 Rd I Ix Ir)
  (h0 : I [] H w)
  (hround : ∀ l z A, wpE (x := ⟨some l, []⟩) P n assign (thenE (fun ρ' A' => A' = A ∧ ∀ pre Y A, I pre Y A → Hst w0 Y A Y A → (∃ post, xs = pre ++ z :: post) → wpE (x := ⟨some l, []⟩) P n body (roundE id Y A (I (pre ++ [z])) (Ix (pre ++ [z])) (Ir (pre ++ [z]))) ρ' A) (fun _ _ _ => False)) (setPs ps.toList (encs z).toList ρ) A)
  (hrest : ∀ D Y A, Hst w0 Y A Y A → Y D → A.heap[D]? = some (.deferred (some [])) → (∀ b, H b → Y b) → Kept H w A → (I xs Y A ∨ ∃ pre, Ix pre Y A) → wpE (x := ⟨none, [mark D]⟩) P n y (afterE D Q) ρ A)
  (hret : ∀ D pre Y A, Hst w0 Y A Y A → Y D → A.heap[D]? = some (.deferred (some [])) → Ir pre Y A → Q .ret ρ (A.putObj D (.deferred none))) :
  wpB P n (.block id (.rangeFunc g ps assign body)) y Q ρ w := by
 obtain ⟨hRd, hI, hIx, hIr⟩ := hRI
 intro a ha
 refine wpIn_block (wpIn_rangeFunc ?_)
 intro fn _
 obtain ⟨rec, hrec⟩ : ∃ rec : LoopState → Option Code → Loop, rec = fun st pe => { state := st, pending := pe, fn, tmps := a.tmps, params := ps, assign, body, defers := w.heap.size } := ⟨_, rfl⟩
 obtain ⟨W1, hW1⟩ : ∃ W1, (w.alloc (.deferred (some []))).alloc (.loop (rec .ready none)) = W1 := ⟨_, rfl⟩
 have hL1 : W1.heap[w.heap.size + 1]? = some (.loop (rec .ready none)) := by
  rw [← hW1]; have := World.alloc_heap_new (w.alloc (.deferred (some []))) (.loop (rec .ready none)); rwa [World.size_alloc] at this
 have hK1 : W1.heap[w.heap.size]? = some (.deferred (some [])) := by
  rw [← hW1]; exact (RowKit.Below.heap_alloc _ _ _ (by simp)).trans (World.alloc_heap_new w _)
 have hsz : W1.heap.size = w.heap.size + 2 := by rw [← hW1]; simp
 have E1 : Pure w W1 := by
  rw [← hW1]
  exact ⟨rfl, rfl, rfl, by simp; omega, fun b hb _ => (RowKit.Below.heap_alloc _ _ _ (by simp; omega)).trans (RowKit.Below.heap_alloc _ _ _ hb)⟩
 let Yo : NP → NP := fun X b => H b ∨ b = w.heap.size ∨ b = w.heap.size + 1 ∨ X b
 have hHlt : ∀ b, H b → b < w.heap.size := hs.lt
 have here : ∀ {X : NP} {A : World}, Hst W1 X A X A → Hst w0 (Yo X) A (Yo X) A := fun {X A} h =>
  ⟨Ext.refl _, fun _ h => h, fun _ h => .inl h, fun b hb => by
   rcases hb with hb | rfl | rfl | hb
   ·exact hs.old b hb
   ·exact hs.base
   ·have := hs.base; omega
   ·have := h.old b hb; have := hs.base; omega, fun b hb => by
   have z := h.base
   rcases hb with hb | rfl | rfl | hb
   ·have := hHlt b hb; omega
   ·omega
   ·omega
   ·exact h.lt b hb, by have := h.base; have := hs.base; omega⟩
 have up : ∀ {X X' : NP} {A A' : World}, Hst W1 X A X A → Hst W1 X A X' A' → Hst w0 (Yo X) A (Yo X') A' := fun {X X' A A'} h k =>
  ⟨k.ext.mono (fun b _ hb => .inr (.inr (.inr hb))), fun b hb => by
   rcases hb with hb | hb | hb | hb
   ·exact .inl hb
   ·exact .inr (.inl hb)
   ·exact .inr (.inr (.inl hb))
   ·exact .inr (.inr (.inr (k.sub b hb))), fun b hb => by
   rcases hb with hb | hb | hb | hb
   ·exact .inl (.inl hb)
   ·exact .inl (.inr (.inl hb))
   ·exact .inl (.inr (.inr (.inl hb)))
   ·exact (k.new b hb).imp_left (fun h => .inr (.inr (.inr h))), (here k.here).old, (here k.here).lt, (here k.here).base⟩
 have nX : ∀ {X : NP} {A : World}, Hst W1 X A X A → ∀ b, b < w.heap.size + 2 → ¬ X b := fun h b hb hx => by have := h.old b hx; omega
 have keepH : ∀ {X X' : NP} {A A' : World}, Kept H w A → Hst W1 X A X' A' → Kept H w A' := fun {X X' A A'} hk k =>
  hk.trans (k.ext.kept (fun b hb hx => nX k.here b (by have := hHlt b hb; omega) hx))
 have turn : ∀ {X : NP} {A : World} (o : Obj), Hst W1 X A X A → Hst w0 (Yo X) A (Yo X) (A.putObj (w.heap.size + 1) o) := fun {X A} o h =>
  ⟨(Ext.putObj A _ o).mono (fun b _ e => by subst e; exact .inr (.inr (.inl rfl))), fun _ h => h, fun _ h => .inl h, (here h).old, fun b hb => by have := (here h).lt b hb; simpa using this, by simpa using (here h).base⟩
 have hstW : ∀ {X : NP} {A : World} (o : Obj), Hst W1 X A X A → Hst W1 X (A.putObj (w.heap.size + 1) o) X (A.putObj (w.heap.size + 1) o) := fun o h =>
  ⟨Ext.refl _, fun _ h => h, fun _ h => .inl h, h.old, fun b hb => by have := h.lt b hb; simpa using this, by simpa using h.base⟩
 have keepT : ∀ {A : World} (o : Obj), Kept H w A → Kept H w (A.putObj (w.heap.size + 1) o) := fun {A} o hk => hk.trans ((Ext.putObj A _ o).kept (fun b hb e => by have := hHlt b hb; omega))
 let Jc : Code → List α → NP → WP := fun c pre Y A => match c with
  | .ret => Ir pre Y A
  | .exit id' => id' = id ∧ Ix pre Y A
  | _ => False
 have hJc : ∀ c pre Y A Y' A', Jc c pre Y A → Hst w0 Y A Y' A' → Jc c pre Y' A' := by
  intro c pre Y A Y' A' h k
  cases c <;> first | exact hIr _ _ _ _ _ h k | exact ⟨h.1, hIx _ _ _ _ _ h.2 k⟩ | exact h
 refine ⟨w.heap.size + 1, [mark w.heap.size], W1, { target := .fn (.func gf) lb, args := #[.func (.yield (w.heap.size + 1)) #[] #[]] }, W1, gf,
  #[.func (.yield (w.heap.size + 1)) #[] #[]] ++ lb, W1, ?_, ?_, fun _ _ => trivial, ?_, (fun h => by cases h), callsIn_wide.2 ?_⟩
 ·rw [← hW1, hrec]; exact run_enterLoop_outer _ _ _ _ _
 ·have hev : a.eval g = .func (.func gf) #[] lb := by rw [ha.eval]; exact hg
  simp only [resolve, hev]
  simp [go_sem]
 ·simp [invoke, go_sem, eg]
 have hst1 : Hst W1 None W1 None W1 := Hst.start W1
 refine (hit (w.heap.size + 1)
  (fun pre X A => Hst W1 X A X A ∧ I pre (Yo X) A ∧ A.heap[w.heap.size + 1]? = some (.loop (rec .ready none)) ∧ A.heap[w.heap.size]? = some (.deferred (some [])) ∧ Kept H w A)
  (fun pre X A => Hst W1 X A X A ∧ ∃ c, Jc c pre (Yo X) A ∧ A.heap[w.heap.size + 1]? = some (.loop (rec .done (some c))) ∧ A.heap[w.heap.size]? = some (.deferred (some [])) ∧ Kept H w A)
  W1 E1 (fun pre X A h => hRd _ _ _ h.2.1)
  (fun pre X A X' A' h k => ⟨k.here, hI _ _ _ _ _ h.2.1 (up h.1 k), k.ext.heap h.2.2.1 (nX k.here _ (by omega)), k.ext.heap h.2.2.2.1 (nX k.here _ (by omega)), keepH h.2.2.2.2 k⟩)
  (fun pre X A X' A' h k => by
   obtain ⟨h1, c, h2, h3, h4, h5⟩ := h
   exact ⟨k.here, c, hJc _ _ _ _ _ _ h2 (up h1 k), k.ext.heap h3 (nX k.here _ (by omega)), k.ext.heap h4 (nX k.here _ (by omega)), keepH h5 k⟩)
  ?_ ⟨hst1, hI _ _ _ _ _ h0 ⟨E1.pure, fun b hb => .inl hb, fun b hb => ?_, (here hst1).old, (here hst1).lt, (here hst1).base⟩, hL1, hK1, E1.keptP⟩).mono ?_
 ·-- one round
  rintro pre z X A ⟨hX, hi, hl, hk, hkH⟩ _ hpost
  have hlt : w.heap.size + 1 < A.heap.size := (Array.getElem?_eq_some_iff.1 hl).1
  have hy := run_yield (P := P) (args := encs z) hl (by rw [hrec]; exact hps z)
  rw [hrec] at hy
  refine ⟨fn, _, assign, body, hy, roundIn_of_wpIn (F := Fence.wide) trivial ?_⟩
  have hrep : Rep [] n (setPs ps.toList (encs z).toList ρ) { tmps := (ps.zip (encs z)).foldl (fun t (x : Nat × Value) => t.setIfInBounds x.1 x.2) a.tmps, defers := [] } := by
   have := rep_setPs ps.toList (encs z).toList ρ a.tmps hpn ⟨rfl, ha.size, ha.get⟩
   rw [← Array.foldl_toList, Array.toList_zip]
   exact this
  refine wpIn_mono (hround (w.heap.size + 1) z A _ hrep) ?_
  rintro e a1 A1 ⟨ρ', hor⟩
  have hor := hor.resolve_right (fun h => by cases h.2.1)
  obtain ⟨hr1, hq⟩ := hor
  cases e <;> first | exact hq.elim | skip
  obtain ⟨rfl, hbody⟩ := hq
  refine ⟨_, run_beginRound hl (by rw [hrec]), ?_⟩
  have T1 := turn (.loop { rec .ready none with state := .busy }) hX
  have hX1 := hstW (.loop { rec .ready none with state := .busy }) hX
  have hl2 : (A1.putObj (w.heap.size + 1) (.loop { rec .ready none with state := .busy })).heap[w.heap.size + 1]? = some (.loop { rec .ready none with state := .busy }) := World.putObj_heap_same hlt
  have hk2 : (A1.putObj (w.heap.size + 1) (.loop { rec .ready none with state := .busy })).heap[w.heap.size]? = some (.deferred (some [])) := (World.putObj_heap_other (by omega)).trans hk
  have hkH2 := keepT (.loop { rec .ready none with state := .busy }) hkH
  have hi2 := hI _ _ _ _ _ hi T1
  refine wpIn_mono (hbody pre (Yo X) _ hi2 T1.here hpost a1 hr1) ?_
  have fin : ∀ (jump : Option Code) (A3 : World), Kept (Yo X) (A1.putObj (w.heap.size + 1) (.loop { rec .ready none with state := .busy })) A3 →
    (Instr.endRound (w.heap.size + 1) jump).run P A3 = .ok (.bool jump.isNone) (A3.putObj (w.heap.size + 1) (.loop (rec (if jump.isNone then .ready else .done) jump))) ∧
    Hst W1 X (A3.putObj (w.heap.size + 1) (.loop (rec (if jump.isNone then .ready else .done) jump))) X (A3.putObj (w.heap.size + 1) (.loop (rec (if jump.isNone then .ready else .done) jump))) ∧
    Hst w0 (Yo X) A3 (Yo X) (A3.putObj (w.heap.size + 1) (.loop (rec (if jump.isNone then .ready else .done) jump))) ∧
    (A3.putObj (w.heap.size + 1) (.loop (rec (if jump.isNone then .ready else .done) jump))).heap[w.heap.size + 1]? = some (.loop (rec (if jump.isNone then .ready else .done) jump)) ∧
    (A3.putObj (w.heap.size + 1) (.loop (rec (if jump.isNone then .ready else .done) jump))).heap[w.heap.size]? = some (.deferred (some [])) ∧
    Kept H w (A3.putObj (w.heap.size + 1) (.loop (rec (if jump.isNone then .ready else .done) jump))) ∧
    Kept X A1 (A3.putObj (w.heap.size + 1) (.loop (rec (if jump.isNone then .ready else .done) jump))) := fun jump A3 hk3 => by
   have hl3 : A3.heap[w.heap.size + 1]? = some (.loop { rec .ready none with state := .busy }) := by
    rw [hk3.keep _ (by simpa using hlt) (.inr (.inr (.inl rfl)))]; exact hl2
   have hD3 : A3.heap[w.heap.size]? = some (.deferred (some [])) := by
    rw [hk3.keep _ (by simp; omega) (.inr (.inl rfl))]; exact hk2
   have hX3 : Hst W1 X A3 X A3 := hX1.again (hk3.mono (fun b hb => .inr (.inr (.inr hb))))
   have hrun := run_endRound (P := P) jump hl3
   rw [hrec] at hrun
   refine ⟨by rw [hrec]; exact hrun, hstW _ hX3, turn _ hX3, World.putObj_heap_same (Array.getElem?_eq_some_iff.1 hl3).1, (World.putObj_heap_other (by omega)).trans hD3, keepT _ (hkH2.trans (hk3.mono (fun b hb => .inl hb))), ?_⟩
   have k1 : Kept X A1 (A1.putObj (w.heap.size + 1) (.loop { rec .ready none with state := .busy })) := (Ext.putObj A1 _ _).kept (fun b hb e => by have := hX.old b hb; omega)
   exact (k1.trans (hk3.mono (fun b hb => .inr (.inr (.inr hb))))).trans ((Ext.putObj A3 _ _).kept (fun b hb e => by have := hX.old b hb; omega))
  rintro e a3 A3 ⟨ρ3, hor⟩
  have hor := hor.resolve_right (fun h => by cases h.2.1)
  obtain ⟨hr3, hq⟩ := hor
  cases e with
  | normal =>
   obtain ⟨hk3, hi3⟩ := hq
   obtain ⟨f1, f2, f3, f4, f5, f6, f7⟩ := fin none A3 hk3
   exact ⟨_, _, f1, .inl ⟨rfl, f7, f2, hI _ _ _ _ _ hi3 f3, f4, f5, f6⟩⟩
  | ret =>
   obtain ⟨hk3, hi3⟩ := hq
   obtain ⟨f1, f2, f3, f4, f5, f6, f7⟩ := fin (some .ret) A3 hk3
   exact ⟨_, _, f1, .inr ⟨rfl, f7, f2, .ret, hIr _ _ _ _ _ hi3 f3, f4, f5, f6⟩⟩
  | exit id' =>
   obtain ⟨rfl, hk3, hi3⟩ := hq
   obtain ⟨f1, f2, f3, f4, f5, f6, f7⟩ := fin (some (.exit id')) A3 hk3
   exact ⟨_, _, f1, .inr ⟨rfl, f7, f2, .exit id', ⟨rfl, hIx _ _ _ _ _ hi3 f3⟩, f4, f5, f6⟩⟩
  | goto t => exact hq.elim
  | panic ch => exact hq.elim
  | outgrown => exact hq.elim
 ·rcases hb with hb | rfl | rfl | hb
  ·exact .inl hb
  ·exact .inr (Nat.le_refl _)
  ·exact .inr (by omega)
  ·exact hb.elim
 ·-- behind the iterator
  have hrepM : Rep [mark w.heap.size] n ρ { a with defers := [mark w.heap.size] ++ a.defers } := ⟨by rw [show a.defers = [] from ha.defers]; rfl, ha.size, ha.get⟩
  have go : ∀ (A : World), Hst w0 (Yo fun b => H b ∨ b = w.heap.size ∨ b = w.heap.size + 1) A (Yo fun b => H b ∨ b = w.heap.size ∨ b = w.heap.size + 1) A → True := fun _ _ => trivial
  have rest : ∀ (X : NP) (A : World), Hst w0 (Yo X) A (Yo X) A → A.heap[w.heap.size]? = some (.deferred (some [])) → Kept H w A → (I xs (Yo X) A ∨ ∃ pre, Ix pre (Yo X) A) →
    y.wpIn (fen none) 0 P (lift ⟨none, []⟩ n Q) { a with defers := [mark w.heap.size] ++ a.defers } A := by
   intro X A hA hD hkA hIA
   refine wpIn_mono (hrest w.heap.size (Yo X) A hA (.inr (.inl rfl)) hD (fun b hb => .inl hb) hkA hIA _ hrepM) ?_
   rintro e a2 A2 ⟨ρ2, ⟨hr2, hq⟩ | ⟨_, _, h, _⟩⟩
   ·cases e <;> first | exact hq.elim | skip
    exact ⟨ρ2, .inr ⟨rfl, rfl, rfl, w.heap.size, hr2, hq.1, hq.2⟩⟩
   ·cases h
  rintro e A ⟨⟨v, rfl⟩, X, _, ⟨hX, hi, hl, hk, hkH⟩ | ⟨pre, hX, c, hc, hl, hk, hkH⟩⟩
  ·obtain ⟨o, hrun⟩ : ∃ o, (Instr.endLoop (w.heap.size + 1)).run P A = .ok none (A.putObj (w.heap.size + 1) o) := by
    have := run_endLoop (P := P) hl (by rw [hrec]; simp)
    rw [hrec] at this
    exact ⟨_, this⟩
   have T := turn o hX
   exact ⟨none, _, hrun, rest X _ T.here ((World.putObj_heap_other (by omega)).trans hk) (keepT _ hkH) (.inl (hI _ _ _ _ _ hi T))⟩
  ·obtain ⟨o, hrun⟩ : ∃ o, (Instr.endLoop (w.heap.size + 1)).run P A = .ok (some c) (A.putObj (w.heap.size + 1) o) := by
    have := run_endLoop (P := P) hl (by rw [hrec]; simp)
    rw [hrec] at this
    exact ⟨_, this⟩
   have T := turn o hX
   refine ⟨some c, _, hrun, ?_⟩
   have hc' := hJc _ _ _ _ _ _ hc T
   have hD := (World.putObj_heap_other (w := A) (r := w.heap.size + 1) (o := o) (k := w.heap.size) (by omega)).trans hk
   cases c <;> first | exact hc.elim | skip
   case exit id' =>
    obtain ⟨rfl, hx⟩ := hc'
    refine wpIn_exit ?_
    simp only [Exit.inBlock, if_true]
    exact rest X _ T.here hD (keepT _ hkH) (.inr ⟨pre, hx⟩)
   case ret =>
    refine wpIn_ret ?_
    exact ⟨ρ, .inr ⟨rfl, rfl, rfl, w.heap.size, hrepM, hD, hret w.heap.size pre (Yo X) _ T.here (.inr (.inl rfl)) hD hc'⟩⟩
end
end Go.SE
namespace Go.SE
end Go.SE
end
section
open Go Go.SE
open Go.IntKind renaming i64 → q6
namespace Go.Proofs
set_option maxRecDepth 100000
set_option maxHeartbeats 4000000
attribute [local irreducible] wpL wpX opE wpE Calls
def m_R1_l1 (yield1 : Value) (v1 : Sl) (x1 : Int) (wl1 : World) (Kc1 : Int → WP) (K : WP) : Prop :=
 Br (decide (x1 < (v1.len : Int)))
  (∃ a1 : Addr, At v1 x1 1 a1 ∧
  ∃ v2 : Int, wl1.cell? a1 = some (vi v2) ∧
  ∃ (ly1 : Nat), yield1 = .func (.yield ly1) #[] #[] ∧
  Yld Tryz.prog ly1 #[(vi v2)] wl1 (fun e w1 => ∃ b1 : Bool, e = .returned (vb b1) ∧
   Br (!b1)
    (K w1)
    (Kc1 (q6.wrap (x1 + 1)) w1)))
  (K wl1)
def m_R1 (yield1 : Value) (cap1 : Addr) (w0 : World) (K : WP) : Prop :=
 ∃ v1 : Sl, w0.cell? cap1 = some v1.v ∧
 ∃ (I1 : Int → WP) (mu1 : Int → World → Nat), I1 0 w0 ∧
  ∀ (x1 : Int) (wl1 : World), I1 x1 wl1 → m_R1_l1 yield1 v1 x1 wl1 (fun y'0 w' => I1 y'0 w' ∧ mu1 y'0 w' < mu1 x1 wl1) K
theorem w_R1 (yield1 : Value) (cap1 : Addr) (w0 : World) (K : WP) (h : m_R1 yield1 cap1 w0 K) :
  Calls Tryz.prog 141 #[yield1, (vp (some cap1))] w0 (fun e w' => e = .returned (.tuple #[]) ∧ K  w') := by
 unfold m_R1 at h
 refine cw (args := [yield1, (vp (some cap1))]) Tryz.func141 Tryz.ntmps141 (wpE_seq (rg ?_))
 obtain ⟨v1, hv3, h⟩ := h
 refine q2 v1.v (xl (Tryz.isAgg52 _) hv3) (q0 (vi (v1.len : Int)) (q0 (vi 0) (wpL_nil (th_n (wpE_block ?_)))))
 obtain ⟨I1, mu1, h0, hr⟩ := h
 refine wpE_loop (σ := Int × World) (fun s ρ w => w = s.2 ∧ Has ρ [(0, yield1), (5, v1.v), (6, (vi (v1.len : Int))), (7, (vi s.1))] ∧ I1 s.1 s.2) (fun s => mu1 s.1 s.2) (0, w0) ⟨rfl, hm, h0⟩ ?_
 rintro ⟨x1, wl1⟩ ρ w ⟨hw, hH, hI⟩
 obtain rfl : wl1 = w := (show w = wl1 from hw).symm
 have hH : Has ρ [(0, yield1), (5, v1.v), (6, (vi (v1.len : Int))), (7, (vi x1))] := hH
 have h := hr x1 wl1 hI
 unfold m_R1_l1 at h
 refine wpE_has hH ?_
 refine wpE_seq (rg (q0 (vb (decide (x1 < (v1.len : Int)))) (wpL_nil (th_n (wpE_seq ?_)))))
 refine wpE_cond (t := (decide (x1 < (v1.len : Int)))) (by kernel_rfl) (fun hc1 => ?_) (fun hc1 => ?_)
 ·have h := h.1 hc1
  refine wpE_skip (th_n (wpE_seq (wpE_block (wpE_seq (rg ?_)))))
  obtain ⟨a1, hv2, h⟩ := h
  refine q2 (vp (some a1)) (xi (Tryz.runUnderlying52 _) (Tryz.sizeOf30 _) hv2) ?_
  obtain ⟨v2, hv1, h⟩ := h
  refine q2 (vi v2) (xl (Tryz.isAgg30 _) hv1) (q0 (vi v2) (wpL_nil (th_n (wpE_seq (rg (q0 yield1 (q0 (vi v2) ?_)))))))
  obtain ⟨ly1, hy1, h⟩ := h
  refine st_yield (want0 rfl) (by kernel_rfl) hy1 (by kernel_rfl) (h.mono ?_)
  rintro e w1 ⟨b1, rfl, h⟩
  refine ⟨_, rfl, ?_⟩
  refine q0 (vb (!b1)) (wpL_nil (th_n ?_))
  refine wpE_cond (t := (!b1)) (by kernel_rfl) (fun hc2 => ?_) (fun hc2 => ?_)
  ·have h := h.1 hc2
   refine wpE_ret (bl_r (th_r (th_r (bl_r (res0 (.inl rfl) Tryz.results141 ?_)))))
   exact ⟨rfl, h⟩
  ·have h := h.2 hc2
   refine wpE_skip (bl_n (th_n (rg (q0 (vi (q6.wrap (x1 + 1))) (q0 (vi (q6.wrap (x1 + 1))) (wpL_nil (th_n ?_)))))))
   exact ⟨((q6.wrap (x1 + 1)), w1), ⟨rfl, hm, h.1⟩, h.2⟩
 ·have h := h.2 hc1
  refine wpE_exit (th_x (th_x (bl_eq (res0 (.inr rfl) Tryz.results141 ?_))))
  exact ⟨rfl, h⟩
def m_K3 (s1 : Sl) (seq1 : Value) (w0 : World) (K : Sl → WP) : Prop :=
 ∀ (p1 : Addr) (w1 : World), New w0 (.cells #[s1.v] 52) p1 w1 →
 ∃ (f1 : FuncId) (cs1 : Array Value), seq1 = .func (.func f1) #[] cs1 ∧ (∀ args w, (callFunc f1 args).run Tryz.prog w = .ok (.enter f1 args) w) ∧
 ∃ (xs1 : List (Int)) (Rd1 : WP), IterC Tryz.prog f1 cs1 (fun (z2 : Int) => #[(vi z2)]) xs1 Rd1 w1 ∧
 ∃ (I1 : List (Int) → NP → WP), RngI w0 Rd1 I1 (fun _ _ _ => False) (fun _ _ _ => False) ∧ I1 [] None w1 ∧
 (∀ (pre1 : List (Int)) (z2 : Int) (Y1 : NP) (A1 : World), I1 pre1 Y1 A1 → Hst w0 Y1 A1 Y1 A1 → (∃ post, xs1 = pre1 ++ z2 :: post) →
  ∃ v1 : Sl, A1.cell? p1 = some v1.v ∧
  ∀ (p2 : Addr) (w2 : World), New A1 (.cells #[(vi z2)] 30) p2 w2 →
  ∃ s2 : Sl, ∃ w3 : World, (Builtin.append_ #[52, 52] 52 #[v1.v, (Sl.mk (some p2) 1 1).v]).run Tryz.prog w2 = .ok s2.v w3 ∧
  Kept None w2 w3 ∧
  CanW w3 p1 ∧ ¬ None p1.block ∧ ∀ w4 : World, w4 = w3.setCell p1 s2.v →
  Kept Y1 A1 w4 ∧ I1 (pre1 ++ [z2]) Y1 w4) ∧
 ∀ (H1 : NP) (w5 : World), Hst w0 H1 w5 H1 w5 → (∀ b, None b → H1 b) → Kept None w1 w5 → I1 xs1 H1 w5 →
 ∃ v2 : Sl, w5.cell? p1 = some v2.v ∧
 ∀ (w6 : World), Hst w0 H1 w5 H1 w6 →
 K v2 w6
theorem w_K3 (s1 : Sl) (seq1 : Value) (w0 : World) (K : Sl → WP) (h : m_K3 s1 seq1 w0 K) :
  Calls Tryz.prog 153 #[s1.v, seq1] w0 (fun e w' => ∃ r1 : Sl, e = .returned r1.v ∧ K r1 w') := by
 unfold m_K3 at h
 refine cw (args := [s1.v, seq1]) Tryz.func153 Tryz.ntmps153 ?_
 have hs := Hst.start w0
 have hb := HB.nil None w0
 refine wpE_seq (rg (sn (O := (.cells #[s1.v] 52)) xb ?_))
 intro p1 w1 hn3
 have h := h p1 w1 hn3
 have hs := hs.again (Ext.new (F := None) hn3).keptP
 have hb := hb.kept (Ext.new (F := None) hn3).keptP
 refine q0 Sl.nil.v (wpL_nil (th_n (wpE_seqC (rg (q0 seq1 (wpL_nil (th_n ?_)))))))
 obtain ⟨f1, cs1, hv1, hf1, h⟩ := h
 obtain ⟨xs1, Rd1, hit, I1, hRI, h0, hbody, h⟩ := h
 refine wpB_range (encs := (fun (z2 : Int) => #[(vi z2)])) (Eq.trans (b := seq1) (by kernel_rfl) hv1) hf1 hit (fun _ => rfl) (by decide) hs I1 (fun _ _ _ => False) (fun _ _ _ => False) hRI h0 ?ha ?hr ?ht
 case ha =>
  intro l z2 w7
  refine rg (q0 (vi z2) (wpL_nil (th_n ?_)))
  refine ⟨rfl, ?_⟩
  intro pre1 Y1 A1 hi hY hpost
  have h := hbody pre1 z2 Y1 A1 hi hY hpost
  have hs := Hst.start A1
  have hb := HB.nil None A1
  refine wpE_block (rg ?_)
  obtain ⟨v1, hv3, h⟩ := h
  refine q2 v1.v (xl (Tryz.isAgg52 _) hv3) (q0 (vi z2) (st_new (O := (.cells #[(vi z2)] 30)) (fun p => (Sl.mk (some p) 1 1).v) (want0 rfl) (x_buildSlice (vs := #[(0, (vi z2))]) (by kernel_rfl) (by kernel_rfl)) ?_))
  intro p2 w2 hn2
  have h := h p2 w2 hn2
  have hs := hs.again (Ext.new (F := None) hn2).keptP
  have hb := hb.kept (Ext.new (F := None) hn2).keptP
  obtain ⟨s2, w3, hv2, hk, h⟩ := h
  refine st (v := s2.v) (want0 rfl) (x_builtin (args := #[v1.v, (Sl.mk (some p2) 1 1).v]) (by kernel_rfl) (fun _ => rfl) hv2) ?_
  obtain ⟨hs, hb⟩ := hk.hh hs hb
  obtain ⟨hp1, hnh, h⟩ := h
  refine st_set (want0 rfl) (x_store (a := p1) (v := s2.v) (by kernel_rfl) (by kernel_rfl) rfl (Tryz.sizeOf52 _) hp1) ?_
  intro w4 hn1
  have h := h w4 hn1
  have hk := Kept.sc hnh hn1
  obtain ⟨hs, hb⟩ := hk.hh hs hb
  refine wpL_nil (bl_n ?_)
  exact rd_n h
 case hr =>
  intro D1 H1 w5 hs' hD hDe aA hk1 hio1
  have hb' := hb.behind hk1 aA hD hDe
  have hs := hs'
  have hb := hb'
  have h := h H1 w5 hs aA hk1 (hio1.elim id (fun h => h.elim (fun _ h => h.elim)))
  refine wpE_seq (rg ?_)
  obtain ⟨v2, hv4, h⟩ := h
  refine q2 v2.v (xl (Tryz.isAgg52 _) hv4) (q0 v2.v (wpL_nil (th_n (wpE_ret (af_r hb.dead ?_)))))
  intro w6 hw'
  have hl := hb.leave hs hw'
  obtain ⟨hs, hb⟩ := hl
  -- behind the loop
  have h := h w6 hs
  have hs := hs.here
  refine rs1 Tryz.results153 (v := v2.v) ?_
  exact ⟨v2, rfl, h⟩
 case ht =>
  intro _ _ _ _ _ _ _ h
  exact h.elim
end Go.Proofs
end
