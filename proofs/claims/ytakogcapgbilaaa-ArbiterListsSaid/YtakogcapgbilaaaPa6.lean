import Derived.Test.YtakogcapgbilaaaPa5
import Derived.Test.YtakogcapgbilaaaPa0
import Derived.ProofKit
import Derived.Carry
import Derived.OpenShut
import Derived.Stop.Joined
import Derived.Test.YtakogcapgbilaaaPa1
section
open Go Go.SE
namespace Go.Proofs
attribute [local irreducible] Calls
theorem lv_step (p : Addr) (k f c : Int) (x : ByteArray) (hf : f = 0 ∨ f = 1) (w : World) {L : Sp.Pool} {F : Nat → Prop} (hP : PoolAt w p L F) (hok : Sp.Ok L) {Q : Int → Int → World → Prop}
  (hQ : ∀ w', (∃ F', PoolAt w' p (Sp.of L (Sp.letterT ⟨k, f, c, x, false⟩ false false)).2.2 F' ∧ Ext F w w' ∧ ∀ b, F' b → F b ∨ w.heap.size ≤ b) → Q (Sp.of L (Sp.letterT ⟨k, f, c, x, false⟩ false false)).1 (Sp.of L (Sp.letterT ⟨k, f, c, x, false⟩ false false)).2.1 w') :
  Calls Try.prog 74 #[.agg #[.int .i64 k, .int .i64 f, .int .u64 c, .string x, .bool false], .bool false, .bool false] w (fun e w2 => ∃ rKind1 : Int, ∃ rFrom1 : Int, ∃ rTo1 : Int, ∃ rNum1 : Int, ∃ rText1 : ByteArray, ∃ rKids1 : Sl, e = .returned (.agg #[(.int .i64 rKind1), (.int .i64 rFrom1), (.int .i64 rTo1), (.int .u64 rNum1), (.string rText1), rKids1.v]) ∧
   Kept None w w2 ∧
   Calls Try.prog 73 #[.pointer (some p), (.agg #[(.int .i64 rKind1), (.int .i64 rFrom1), (.int .i64 rTo1), (.int .u64 rNum1), (.string rText1), rKids1.v])] w2 (fun e w3 => ∃ r2 : Int, ∃ r3 : Int, e = .returned (.tuple #[(.int .i64 r2), (.int .i64 r3)]) ∧ Kept None w2 w3 ∧ Q r2 r3 w3)) := by
 refine (c_ref11_Tree w.heap.size k f c x false false false w (Nat.le_refl _) hf).mono ?_
 rintro _ w2 ⟨s, rfl, hT, E2⟩
 refine ⟨_, _, _, _, _, s, rfl, E2.keptP, ?_⟩
 refine (c_Of p _ s w2 hT.lt (hP.pure E2) hok (fun b hb h => by have := hP.lt hb; have : w.heap.size ≤ b := h.1; omega) (fun b h => h.2)).mono ?_
 rintro _ w3 ⟨r1, r2, rfl, hr, F', hP', E3, hF'⟩
 have e1 : r1 = _ := congrArg Prod.fst hr
 have e2 : r2 = _ := congrArg Prod.snd hr
 refine ⟨_, _, rfl, E3.kept (fun b h => h.elim), ?_⟩
 rw [e1, e2]
 exact hQ w3 ⟨F', hP', E2.pure.trans E3, fun b hb => (hF' b hb).imp_right (fun h => by have := E2.size; omega)⟩
theorem Lst.of_ints {w : World} {p : Addr} {T : TypeId} (ts : List Int) (h : Box w p (ts.map fun t => .int .i64 t) T) : Lst (· = p.block) w 1 ⟨some p, ts.length, ts.length⟩ (trows ts) := by
 refine ⟨by simp [trows], fun i hi => ?_⟩
 have hi' : i < ts.length := by simpa [trows] using hi
 refine ⟨p.add (i * 1), ⟨by omega, by simpa using hi', p, rfl, by simp⟩, by rw [add_block], fun j hj => ?_⟩
 have hj0 : j = 0 := by simpa [trows] using hj
 subst hj0
 have := h.cell (i := i) (v := .int .i64 ts[i]) (by simp [hi'])
 rw [add_add, Nat.mul_one, Nat.add_zero, this]
 simp [trows]
theorem c_live13 (w0 : World) : Calls Try.prog 16 #[] w0 (fun e w' => ∃ r : Bool, e = .returned (.bool r) ∧ (r = true ∧ Pure w0 w')) := by
 refine w_law13_live w0 (fun r w' => r = true ∧ Pure w0 w') ?_
 unfold m_law13_live
 refine (c_New w0).mono ?_
 rintro _ w1 ⟨_, rfl, p, rfl, E1, F1, hP1, hF1⟩
 refine ⟨_, rfl, E1.keptP, Br.f rfl ?_⟩
 refine lv_step p 2 1 7 Sp.wt (.inr rfl) w1 hP1 Sp.Ok.nil ?_
 rintro w3 ⟨F3, hP3, E3, hF3⟩
 have ok1 := Sp.of_ok Sp.Ok.nil Sp.lvA
 refine lv_step p 1 1 7 Sp.wt (.inr rfl) w3 hP3 ok1 ?_
 rintro w5 ⟨F5, hP5, E5, hF5⟩
 have ok2 := Sp.of_ok ok1 Sp.lvB
 refine lv_step p 2 1 7 Sp.wu (.inr rfl) w5 hP5 ok2 ?_
 rintro w7 ⟨F7, hP7, E7, hF7⟩
 have ok3 := Sp.of_ok ok2 Sp.lvC
 have hP : PoolAt w7 p Sp.lv3 F7 := hP7
 have s1 := E1.size
 have s3 := E3.size
 have s5 := E5.size
 have E : Pure w0 w7 := ((E1.trans' E3 (fun i hi h => by have := hF1 i h; omega)).trans' E5 (fun i hi h => (hF3 i h).elim (fun h => by have := hF1 i h; omega) (fun h => by omega))).trans' E7 (fun i hi h => (hF5 i h).elim (fun h => (hF3 i h).elim (fun h => by have := hF1 i h; omega) (fun h => by omega)) (fun h => by omega))
 have hF0 : ∀ b, F7 b → w0.heap.size ≤ b := fun b hb => (hF7 b hb).elim (fun h => (hF5 b h).elim (fun h => (hF3 b h).elim (hF1 b) (fun h => by omega)) (fun h => by omega)) (fun h => by omega)
 have ea := Sp.lv_a
 have eb := Sp.lv_b
 have ec := Sp.lv_c
 have ha1 : (Sp.of [] (Sp.letterT ⟨2, 1, 7, Sp.wt, false⟩ false false)).1 = 6 := ea.1
 have ha2 : (Sp.of [] (Sp.letterT ⟨2, 1, 7, Sp.wt, false⟩ false false)).2.1 = 0 := ea.2
 have hb1 : (Sp.of (Sp.of [] (Sp.letterT ⟨2, 1, 7, Sp.wt, false⟩ false false)).2.2 (Sp.letterT ⟨1, 1, 7, Sp.wt, false⟩ false false)).1 = 7 := eb.1
 have hb2 : (Sp.of (Sp.of [] (Sp.letterT ⟨2, 1, 7, Sp.wt, false⟩ false false)).2.2 (Sp.letterT ⟨1, 1, 7, Sp.wt, false⟩ false false)).2.1 = 0 := eb.2
 have hc1 : (Sp.of (Sp.of (Sp.of [] (Sp.letterT ⟨2, 1, 7, Sp.wt, false⟩ false false)).2.2 (Sp.letterT ⟨1, 1, 7, Sp.wt, false⟩ false false)).2.2 (Sp.letterT ⟨2, 1, 7, Sp.wu, false⟩ false false)).1 = 11 := ec.1
 have hc2 : (Sp.of (Sp.of (Sp.of [] (Sp.letterT ⟨2, 1, 7, Sp.wt, false⟩ false false)).2.2 (Sp.letterT ⟨1, 1, 7, Sp.wt, false⟩ false false)).2.2 (Sp.letterT ⟨2, 1, 7, Sp.wu, false⟩ false false)).2.1 = 0 := ec.2
 refine Br.f (by rw [ha2]; first | rfl | (rw [hb2]; first | rfl | (rw [hc2]; rfl))) ?_
 rw [ha1, hb1, hc1]
 clear ha1 ha2 hb1 hb2 hc1 hc2 ea eb ec
 intro H2 w9 hs9 p1 w11 h11
 have hv9 : ∀ b, F7 b → ¬ H2 b := hs9.disj (fun b hb => ⟨hP.lt hb, id⟩)
 have hP9 := hP.ext hs9.ext hv9
 have E9 := E.hst hs9
 have E11 : Pure w9 w11 := Ext.new h11
 refine (c_arb_Judge (some p) _ _ 1 7 Sp.wt w11 (reads_pool p _ [7, 6] w11 (hP9.pure E11) ok3 (Lst.of_ints [7, 6] (Box.of_new h11)) (by simp)) (by simp [readAll])).mono ?_
 rintro _ w12 ⟨b, y, i, rfl, hj, E12⟩
 rw [Sp.lv_x] at hj
 cases hj
 refine ⟨_, _, _, rfl, E12.keptP, ?_⟩
 intro H4 w14 hs14 p3 w15 h15
 have E12' := E11.trans E12
 have hP12 := hP9.pure E12'
 have hv14 : ∀ b, F7 b → ¬ H4 b := hs14.disj (fun b hb => ⟨hP12.lt hb, hv9 b hb⟩)
 have hP14 := hP12.ext hs14.ext hv14
 have E14 := (E9.trans E12').hst hs14
 have E15 : Pure w14 w15 := Ext.new h15
 refine (c_arb_Judge (some p) _ _ 1 7 Sp.wt w15 (reads_pool p _ [7] w15 (hP14.pure E15) ok3 (Lst.of_ints [7] (Box.of_new h15)) (by simp)) (by simp [readAll])).mono ?_
 rintro _ w16 ⟨b, y, i, rfl, hj, E16⟩
 rw [Sp.lv_y] at hj
 cases hj
 refine ⟨_, _, _, rfl, E16.keptP, ?_⟩
 intro H5 w18 hs18 p5 w19 h19
 have E16' := E15.trans E16
 have hP16 := hP14.pure E16'
 have hv18 : ∀ b, F7 b → ¬ H5 b := hs18.disj (fun b hb => ⟨hP16.lt hb, hv14 b hb⟩)
 have hP18 := hP16.ext hs18.ext hv18
 have E18 := (E14.trans E16').hst hs18
 have E19 : Pure w18 w19 := Ext.new h19
 refine (c_arb_Faults (some p) _ _ w19 (reads_pool p _ [6, 7, 11] w19 (hP18.pure E19) ok3 (Lst.of_ints [6, 7, 11] (Box.of_new h19)) (by simp)) (by simp [readAll])).mono ?_
 rintro _ w20 ⟨s, rfl, hs⟩
 rw [Sp.lv_l] at hs
 have E20 := E18.trans (E19.trans hs.pure)
 refine ⟨s, rfl, hs.kept, ?_⟩
 rintro _ rfl
 have hl : s.len = 1 := hs.rows.len
 have O := hs.own' (hs18.again E19.keptP)
 refine Br.t (by rw [hl]; rfl) ?_
 obtain ⟨a, hat, _⟩ := O.rows.nth (f := frow) (xs := [⟨1, 7, 1, 0, 2⟩]) (j := 0) (by simp)
 refine ⟨a, hat, ?_⟩
 intro H7 w22 hs22
 obtain ⟨a', hat', hrow⟩ := (O.hst hs22).rows.nth (f := frow) (xs := [⟨1, 7, 1, 0, 2⟩]) (j := 0) (by simp)
 have haa : a' = a := by
  obtain ⟨_, _, x, hx, rfl⟩ := hat
  obtain ⟨_, _, y, hy, rfl⟩ := hat'
  rw [hx] at hy; cases hy; rfl
 subst haa
 exact ⟨_, _, _, _, _, hrow, rfl, E20.hst hs22⟩
end Go.Proofs
end
section
open Go Go.SE
namespace Go.Proofs
attribute [local irreducible] Calls
theorem faults_len {ls : List Sp.Letter} : (Sp.faults ls).length ≤ ls.length * ls.length := by
 have hrow : ∀ (bs : List Sp.Letter) (i k : Int) (a : Sp.Letter) (out : List Sp.Fault), (Sp.faultsRow i a k bs out).length ≤ out.length + bs.length := by
  intro bs
  induction bs with
  | nil => intro i k a out; simp [Sp.faultsRow]
  | cons b bs ih =>
   intro i k a out
   rw [Sp.faultsRow]
   have := ih i (k + 1) a (Sp.addFault out i k (Sp.fault a b))
   have := Sp.addFault_len out i k (Sp.fault a b)
   simp only [List.length_cons]; omega
 have hall : ∀ (n : Nat) (ls : List Sp.Letter) (i : Int) (out : List Sp.Fault), ls.length ≤ n → (Sp.faultsFrom i ls out).length ≤ out.length + ls.length * n := by
  intro n ls
  induction ls with
  | nil => intro i out _; simp [Sp.faultsFrom]
  | cons a ls ih =>
   intro i out hn
   rw [Sp.faultsFrom]
   simp only [List.length_cons] at hn ⊢
   have := ih (i + 1) (Sp.faultsRow i a (i + 1) ls out) (by omega)
   have := hrow ls i (i + 1) a out
   rw [Nat.succ_mul]; omega
 have := hall ls.length ls 0 [] (Nat.le_refl _)
 simpa [Sp.faults] using this
theorem c_law13_ArbiterLists {S : Nat → Prop} (ts : List Sp.Tree) (s : Sl) (w0 : World) (hT : TreeAt S w0 s (.mk 0 0 0 0 ⟨#[]⟩ ts)) (hS : ∀ b, S b → b < w0.heap.size) :
  Calls Try.prog 3 #[s.v] w0 (fun e w' => ∃ r : Bool, e = .returned (.bool r) ∧ (r = true ∧ Pure w0 w')) := by
 refine w_law13_ArbiterLists _ w0 (fun r w' => r = true ∧ Pure w0 w') ?_
 unfold m_law13_ArbiterLists
 refine (c_law13_large ts s w0 hT hS).mono ?_
 rintro _ w1 ⟨r1, rfl, hlg, E1⟩
 refine ⟨_, rfl, fun _ => ?_, fun h => ?_⟩
 ·refine (c_live13 w1).mono ?_
  rintro _ w2 ⟨r2, rfl, hr2, E2⟩
  exact ⟨_, rfl, hr2, E1.trans E2⟩
 obtain ⟨hn, hc⟩ := hlg h
 refine (c_law13_shown ts s w1 (hT.pure E1) (fun b hb => by have := hS b hb; have := E1.size; omega) (by omega) (by omega)).mono ?_
 rintro _ w3 ⟨_, r4, r5, rfl, p1, p2, F1, F2, rfl, hq⟩
 refine ⟨_, _, _, rfl, Br.f rfl ?_⟩
 have hok := (Sp.showAll_ok ts hc).1
 have hlen : (Sp.showAll ts).2.2.length ≤ 40 := by
  have := Sp.show_len ts ([], [], [])
  rw [← hok.len]; unfold Sp.showAll; rw [this]; simpa using hn
 have hlen1 : (Sp.showAll ts).2.1.length ≤ 40 := by rw [hok.len]; exact hlen
 have hR : Reads (some p1) r4 (Sp.showAll ts).2.2 w3 := by rw [hok.each]; exact reads_pool p1 r4 _ w3 hq.pool1 hok.wf.ok hq.ts.lst (by omega)
 have hfr := hok.frm
 have hls := hq.ls
 generalize (Sp.showAll ts).2.2 = ls at *
 have E3 := E1.trans hq.pure
 refine (c_arb_Bonds (some p1) r4 ls w3 hR (by omega)).mono ?_
 rintro _ w4 ⟨r6, rfl, h6⟩
 refine ⟨_, rfl, ?_⟩
 refine (c_ref13_Bonds r5 ls w4 (hls.pure h6.pure) hfr (by omega)).mono ?_
 rintro _ w5 ⟨r7, rfl, h7⟩
 refine ⟨_, rfl, ?_⟩
 have hbl := bonds_len (ls := ls)
 refine (c_law13_bonds (Sp.bonds ls) r6 r7 w5 (h6.rows.pure h7.pure) h7.rows (by omega)).mono ?_
 rintro _ w6 ⟨r8, rfl, h8, E8⟩
 refine ⟨_, rfl, Br.t h8 ?_⟩
 have E46 := (h6.pure.trans h7.pure).trans E8
 refine (c_arb_Faults (some p1) r4 ls w6 (hR.pure E46) (by omega)).mono ?_
 rintro _ w8 ⟨r10, rfl, h10⟩
 refine ⟨_, rfl, ?_⟩
 refine (c_ref13_Faults r5 ls w8 (hls.pure (E46.trans h10.pure)) (by omega)).mono ?_
 rintro _ w9 ⟨r11, rfl, h11⟩
 refine ⟨_, rfl, ?_⟩
 have hfl := faults_len (ls := ls)
 have hfl2 : ls.length * ls.length ≤ 40 * 40 := Nat.mul_le_mul hlen hlen
 refine (c_law13_faults (Sp.faults ls) r10 r11 w9 (h10.rows.pure h11.pure) h11.rows (by omega)).mono ?_
 rintro _ w10 ⟨r12, rfl, h12, E12⟩
 refine ⟨_, rfl, ?_⟩
 unfold m_law13_ArbiterLists_j1
 refine Br.t h12 ?_
 refine (c_live13 w10).mono ?_
 rintro _ w7 ⟨r9, rfl, hr9, E9⟩
 exact ⟨_, rfl, hr9, (((E3.trans E46).trans h10.pure).trans h11.pure).trans (E12.trans E9)⟩
end Go.Proofs
end
section
namespace Go.SE
open Go.ChangeShapes Go.WideShapes Go.ChangeAt Go.RowKit
section
variable {H : Type} {enc : TypeId × Value → H} {P : Program}
theorem below_trodAll (hl : laidOutB P = true) {W W' : World} (hb : Below W.heap.size W W') : ∀ (ts : List TypeId) (vs : List Value) (ds : List (DataW H)) (ps : List MemPlace), (ts.all fun t => P.readableRec t && decide (t < P.types.size)) = true →
  DataW.TrodAll enc P W 0 (fun _ => true) true ts vs ds ps → (∀ x ∈ ps, x.block < W.heap.size) → DataW.TrodAll enc P W' 0 (fun b => decide (b < W.heap.size)) true ts vs ds ps
 | [], _, _, _, _, h, _ => by
  obtain ⟨rfl, rfl, rfl⟩ := trodAll_nil h
  exact h
 | t :: ts, _, _, _, hr, h, hlt => by
  obtain ⟨v, vs1, d, ds1, a, b, rfl, rfl, rfl, h1, h2⟩ := trodAll_cons h
  simp only [List.all_cons, Bool.and_eq_true, decide_eq_true_eq] at hr
  exact ⟨a, b, Below.trod hl hr.1.1 hr.1.2 h1 hb (fun x hx => hlt x (by simp [hx])), below_trodAll hl hb ts vs1 ds1 b (by simpa using hr.2) h2 (fun x hx => hlt x (by simp [hx])), rfl⟩
theorem law_post {f : Func} {s : ChangeSpec} {W W' : World} {args : Array Value} {ds gs : List (DataW H)} {before : List MemPlace} {t : TypeId} (hl : laidOutB P = true)
  (hv : s.vars = []) (hf : ∀ ds : List (DataW H), ds.length = f.params.size → s.fn H ds = { results := [.lit (.bool true)], args := ds }) (hrt : f.resultTypes = #[t]) (ht : P.underlying t = some .bool)
  (hr : (f.params.toList.all fun t => P.readableRec t && decide (t < P.types.size)) = true)
  (hW : DataW.Whole enc P f.params.toList s.vars false W args.toList ds gs before) (E : Pure W W') :
  s.post enc P f false true false false W args (.bool true) W' := by
 have hW' := hW
 obtain ⟨p, q, hA, hV, rfl, hfz, hnd⟩ := hW
 rw [hv] at hV
 obtain ⟨rfl, rfl⟩ := trodVars_none hV
 have hlen : ds.length = f.params.size := by
  have : ∀ (ts : List TypeId) (vs : List Value) (ds : List (DataW H)) (ps : List MemPlace), DataW.TrodAll enc P W 0 (fun _ => true) true ts vs ds ps → ds.length = ts.length := by
   intro ts
   induction ts with
   | nil => intro vs ds ps h; obtain ⟨_, rfl, _⟩ := trodAll_nil h; rfl
   | cons t ts ih =>
    intro vs ds ps h
    obtain ⟨v, vs1, d, ds1, a, b, _, rfl, _, _, h2⟩ := trodAll_cons h
    simp [ih _ _ _ h2]
  simpa using this _ _ _ _ hA
 have hfn := hf ds hlen
 have hfn' : s.fn H (ds ++ []) = { results := [.lit (.bool true)], args := ds } := by rw [List.append_nil]; exact hfn
 have hlt : ∀ x ∈ p, x.block < W.heap.size := fun x hx => by simpa using hW'.lt x (by simp [hx])
 have bel := E.below
 refine ⟨ds, [], p ++ [], [], p, [], hW', ?_, ?_, ?_, bel.frame _, fun h => by cases h⟩
 ·rw [hfn', hrt]; exact trodAll_mk1 (shut_bool ht _)
 ·rw [hfn']; exact below_trodAll hl bel _ _ _ _ hr hA hlt
 ·rw [hfn', hv]; exact hV
theorem law_lifted {C : Checked} {os : Os} {f : FuncId} {fn : Func} {s : ChangeSpec} {t : TypeId} (hl : laidOutB C.prog = true)
  (hv : s.vars = []) (hf : ∀ ds : List (DataW H), ds.length = fn.params.size → s.fn H ds = { results := [.lit (.bool true)], args := ds }) (hrt : fn.resultTypes = #[t]) (ht : C.prog.underlying t = some .bool)
  (hr : (fn.params.toList.all fun t => C.prog.readableRec t && decide (t < C.prog.types.size)) = true)
  (own : ownKnob C.prog.godebug = none) (started : os.Started) (noInit : C.prog.inits.idxOf? f = none) (hfn : C.prog.funcs[f]? = some fn)
  (witness : ∃ (w : World) (tape : Tape) (i : Input), w.os = os ∧ (w.forCall tape i).Shaped C.prog ∧ i.vars = [] ∧ Input.okWide C.prog (w.forCall tape i) .any w.heap.size f i ∧
   s.pre6 enc C.prog fn [] false (w.forCall tape i).memory i.args ∧ ({} : Assume).holds C.prog (lone (Frame.enter C.prog f i.args .normal) [] (w.forCall tape i)))
  (contract : ∀ (W : World) (base : Nat) (args : Array Value) (ds : List (DataW H)) (p : List MemPlace),
   (∀ (j : Nat) t v, fn.params[j]? = some t → args[j]? = some v → Value.okWide C.prog W .any base t v) →
   DataW.TrodAll enc C.prog W 0 (fun _ => true) true fn.params.toList args.toList ds p → (∀ x ∈ p, x.block < W.heap.size) →
   Calls C.prog f args W (fun e W' => ∃ r : Bool, e = .returned (.bool r) ∧ (r = true ∧ Pure W W'))) :
  ReturnsInHanded {} C os f .any (s.pre6 enc C.prog fn [] false) (s.post enc C.prog fn false true false false) := by
 refine returnsInHanded_of_change own started noInit hfn witness ?_
 intro W base args ds gs before hval hW _ _
 have hW' := hW
 obtain ⟨p, q, hA, hV, rfl, hfz, hnd⟩ := hW
 refine (contract W base args ds p hval hA (fun x hx => by simpa using hW'.lt x (by simp [hx]))).mono fun e W' ⟨r, he, h1, h2⟩ => ?_
 subst h1
 exact ⟨_, he, law_post hl hv hf hrt ht hr hW' h2⟩
end
end Go.SE
namespace Go.SE
open Go.ChangeShapes Go.WideShapes Go.ChangeAt Go.RowKit
section
variable {P : Program} {W : World} {r : Reach} {b0 : Nat} {t : TypeId} {v : Value}
theorem okWide_sl {e : TypeId} (ht : P.underlying t = some (.slice e)) (h : Value.okWide P W r b0 t v) : ∃ a n c, v = .slice a n c := by
 unfold Value.okWide at h
 rw [ht] at h
 simp only at h
 unfold Cell.okWide at h
 rw [ht] at h
 cases v <;> simp [Cell.ok, ht] at h
 exact ⟨_, _, _, rfl⟩
end
end Go.SE
end
section
open Go Go.SE
namespace Go.Proofs
theorem mapM_facts {α β : Type} {f : α → Option β} : ∀ {l : List α} {r : List β}, l.mapM f = some r → r.length = l.length ∧ ∀ (i : Nat) (a : α), l[i]? = some a → ∃ b, f a = some b ∧ r[i]? = some b
 | [], r, h => by
  have : r = [] := by simpa using h.symm
  subst this
  exact ⟨rfl, fun i a h => by simp at h⟩
 | x :: xs, r, h => by
  rw [List.mapM_cons] at h
  cases hx : f x with
  | none => simp [hx] at h
  | some y =>
   cases hxs : xs.mapM f with
   | none => simp [hx, hxs] at h
   | some ys =>
    have : r = y :: ys := by simpa [hx, hxs] using h.symm
    subst this
    obtain ⟨h1, h2⟩ := mapM_facts hxs
    refine ⟨by simp [h1], fun i a ha => ?_⟩
    cases i with
    | zero => cases ha; exact ⟨y, hx, rfl⟩
    | succ i => exact h2 i a (by simpa using ha)
theorem cells_row {w : World} {base : Nat} {a : Addr} {n : Nat} {cs : List Value} (h : w.cells? base a n = some cs) : cs.length = n ∧ Row w a cs := by
 obtain ⟨_, h1, h2⟩ := World.cells?_some h
 exact ⟨h1, fun j hj => h2 j (by omega)⟩
section
variable {H : Type} {enc : TypeId × Value → H} {P : Program} {W : World} {base : Nat} {sp : Nat → Bool} {held : Bool}
theorem trod_int1 {t : TypeId} {k : IntKind} (ht : P.underlying t = some (.int k)) {n : Nat} {c : Value} {x : DataW H × List MemPlace} (h : DataW.trod enc P W base sp held n t [c] = some x) : ∃ m, c = .int k m := by
 cases n with
 | zero => cases h
 | succ n =>
  rw [DataW.trod_step] at h
  unfold DataW.trodStep at h
  rw [ht] at h
  cases c <;> simp at h
  obtain ⟨⟨rfl, _⟩, _⟩ := h
  exact ⟨_, rfl⟩
theorem trod_str1 {t : TypeId} (ht : P.underlying t = some .string) {n : Nat} {c : Value} {x : DataW H × List MemPlace} (h : DataW.trod enc P W base sp held n t [c] = some x) : ∃ m, c = .string m := by
 cases n with
 | zero => cases h
 | succ n =>
  rw [DataW.trod_step] at h
  unfold DataW.trodStep at h
  rw [ht] at h
  cases c <;> simp at h
  exact ⟨_, rfl⟩
theorem trod_slice1 {t e : TypeId} (ht : P.underlying t = some (.slice e)) {n : Nat} {c : Value} {x : DataW H × List MemPlace} (h : DataW.trod enc P W base sp held (n + 1) t [c] = some x) :
  c = .slice none 0 0 ∨ ∃ a len cap, c = .slice (some a) len cap ∧ len ≤ cap ∧ cap ≤ maxLen ∧ ∀ i, i < len → ∃ cs y, W.cells? base (a.add (i * P.cellsOf e)) (P.cellsOf e) = some cs ∧ DataW.trod enc P W base sp held n e cs = some y := by
 rw [DataW.trod_step] at h
 unfold DataW.trodStep at h
 rw [ht] at h
 cases c with
 | slice a len cap =>
  cases a with
  | none =>
   cases len with
   | zero => cases cap with
    | zero => exact .inl rfl
    | succ c => simp at h
   | succ l => simp at h
  | some a =>
   right
   simp only at h
   split at h
   ·rename_i hc
    refine ⟨a, len, cap, rfl, hc.2.1, hc.2.2, fun i hi => ?_⟩
    cases hm : (List.range len).mapM fun i => (W.cells? base (a.add (i * P.cellsOf e)) (P.cellsOf e)).bind (DataW.trod enc P W base sp held n e) with
    | none => rw [hm] at h; cases h
    | some r =>
     obtain ⟨b, hb, _⟩ := (mapM_facts hm).2 i i (by simp [hi])
     obtain ⟨cs, h1, h2⟩ := Option.bind_eq_some_iff.1 hb
     exact ⟨cs, b, h1, h2⟩
   ·cases h
 | _ => simp at h
structure TreeTypes (P : Program) (tS tT : TypeId) : Prop where
 ex : ∃ ti tu ts : TypeId, ∃ f0 f1 f2 f3 f4 f5 : Field, P.underlying tS = some (.slice tT) ∧ P.underlying tT = some (.struct #[f0, f1, f2, f3, f4, f5]) ∧ P.cellsOf tT = 6 ∧
  (f0.type = ti ∧ f1.type = ti ∧ f2.type = ti ∧ f3.type = tu ∧ f4.type = ts ∧ f5.type = tS) ∧ (f0.offset = 0 ∧ f1.offset = 1 ∧ f2.offset = 2 ∧ f3.offset = 3 ∧ f4.offset = 4 ∧ f5.offset = 5) ∧
  P.underlying ti = some (.int .i64) ∧ P.underlying tu = some (.int .u64) ∧ P.underlying ts = some .string ∧ P.cellsOf ti = 1 ∧ P.cellsOf tu = 1 ∧ P.cellsOf ts = 1 ∧ P.cellsOf tS = 1
theorem trod_tree {tS tT : TypeId} (hTT : TreeTypes P tS tT) : ∀ n : Nat,
  (∀ (c : Value) (x : DataW H × List MemPlace), DataW.trod enc P W base sp held n tS [c] = some x → ∃ s : Sl, ∃ ts : List Sp.Tree, c = s.v ∧ ∀ (k f t u : Int) (tx : ByteArray), TreeAt (fun _ => True) W s (.mk k f t u tx ts)) ∧
  (∀ (cs : List Value) (x : DataW H × List MemPlace), DataW.trod enc P W base sp held n tT cs = some x → ∃ t s, cs = trow t s ∧ TreeAt (fun _ => True) W s t) := by
 obtain ⟨ti, tu, tx, f0, f1, f2, f3, f4, f5, hS, hT, hc6, ⟨e0, e1, e2, e3, e4, e5⟩, ⟨o0, o1, o2, o3, o4, o5⟩, ui, uu, us, ci, cu, cs1, cS⟩ := hTT.ex
 intro n
 induction n with
 | zero => exact ⟨fun c x h => (by cases h), fun cs x h => (by cases h)⟩
 | succ n ih =>
  refine ⟨fun c x h => ?_, fun cs x h => ?_⟩
  ·rcases trod_slice1 hS h with rfl | ⟨a, len, cap, rfl, hle, hcm, hel⟩
   ·exact ⟨Sl.nil, [], rfl, fun k f t u tx => .mk k f t u tx [] Sl.nil (fun _ => Sl.nil) rfl (by simp) (fun i h => by simp at h) (fun i h => by simp at h)⟩
   ·rw [hc6] at hel
    have hex : ∀ i, ∃ q : Sp.Tree × Sl, i < len → Row W (a.add (i * 6)) (trow q.1 q.2) ∧ TreeAt (fun _ => True) W q.2 q.1 := by
     intro i
     by_cases hi : i < len
     ·obtain ⟨cs, y, h1, h2⟩ := hel i hi
      obtain ⟨tr, s, e, hTr⟩ := ih.2 cs y h2
      exact ⟨(tr, s), fun _ => ⟨e ▸ (cells_row h1).2, hTr⟩⟩
     ·exact ⟨(Sp.Tree.mk 0 0 0 0 ⟨#[]⟩ [], Sl.nil), fun h => absurd h hi⟩
    obtain ⟨q, hq⟩ := Classical.axiomOfChoice hex
    refine ⟨⟨some a, len, cap⟩, (List.range len).map fun i => (q i).1, rfl, fun k f t u tx => .mk k f t u tx _ _ (fun i => (q i).2) (by simp) (by simp only [maxLen] at hcm; simp; omega) (fun i h => ?_) (fun i h => ?_)⟩
    ·have hi : i < len := by simpa using h
     refine ⟨a.add (i * 6), ⟨by omega, by simpa using hi, a, rfl, by simp⟩, trivial, ?_⟩
     simpa using (hq i hi).1
    ·have hi : i < len := by simpa using h
     simpa using (hq i hi).2
  ·rw [DataW.trod_step] at h
   unfold DataW.trodStep at h
   rw [hT] at h
   simp only at h
   split at h
   ·rename_i hl
    rw [hc6] at hl
    match cs, hl with
    | [c0, c1, c2, c3, c4, c5], _ =>
     cases hm : ([f0, f1, f2, f3, f4, f5] : List Field).mapM (fun f => DataW.trod enc P W base sp held n f.type ((([c0, c1, c2, c3, c4, c5] : List Value).drop f.offset).take (P.cellsOf f.type))) with
     | none => rw [hm] at h; cases h
     | some r =>
      have hf := (mapM_facts hm).2
      obtain ⟨_, h0, _⟩ := hf 0 f0 rfl
      obtain ⟨_, h1, _⟩ := hf 1 f1 rfl
      obtain ⟨_, h2, _⟩ := hf 2 f2 rfl
      obtain ⟨_, h3, _⟩ := hf 3 f3 rfl
      obtain ⟨_, h4, _⟩ := hf 4 f4 rfl
      obtain ⟨_, h5, _⟩ := hf 5 f5 rfl
      rw [e0, o0, ci] at h0; rw [e1, o1, ci] at h1; rw [e2, o2, ci] at h2; rw [e3, o3, cu] at h3; rw [e4, o4, cs1] at h4; rw [e5, o5, cS] at h5
      obtain ⟨m0, rfl⟩ := trod_int1 ui h0
      obtain ⟨m1, rfl⟩ := trod_int1 ui h1
      obtain ⟨m2, rfl⟩ := trod_int1 ui h2
      obtain ⟨m3, rfl⟩ := trod_int1 uu h3
      obtain ⟨m4, rfl⟩ := trod_str1 us h4
      obtain ⟨s, ts, rfl, hTr⟩ := ih.1 c5 _ h5
      exact ⟨.mk m0 m1 m2 m3 m4 ts, s, rfl, hTr m0 m1 m2 m3 m4⟩
   ·cases h
theorem trees_of_trod {tS tT : TypeId} (hTT : TreeTypes P tS tT) {v : Value} {d : DataW H} {ps : List MemPlace} (h : DataW.Trod enc P W base sp held tS v d ps) (hv : ∃ a n c, v = .slice a n c) :
  ∃ s : Sl, ∃ ts : List Sp.Tree, v = s.v ∧ TreeAt (fun b => b < W.heap.size) W s (.mk 0 0 0 0 ⟨#[]⟩ ts) := by
 obtain ⟨n, h⟩ := h
 obtain ⟨a, m, c, rfl⟩ := hv
 obtain ⟨s, ts, e, hT⟩ := (trod_tree hTT n).1 _ _ h
 exact ⟨s, ts, e, (hT 0 0 0 0 ⟨#[]⟩).lt.mono (fun b hb => hb.2)⟩
end
theorem treeTypes : TreeTypes Try.prog 22 116 :=
 ⟨3, 38, 9, _, _, _, _, _, _, Try.underlying22, Try.underlying116, by kernel_rfl, ⟨rfl, rfl, rfl, rfl, rfl, rfl⟩, ⟨rfl, rfl, rfl, rfl, rfl, rfl⟩, Try.underlying3, Try.underlying38, Try.underlying9, by kernel_rfl, by kernel_rfl, by kernel_rfl, by kernel_rfl⟩
end Go.Proofs
end
