/- Contracts: escrow/arbiter, Texts. -/
import Derived.Test.YtakogcapgbilaaaCArbE
open Go Go.SE
namespace Go.Proofs
attribute [local irreducible] Calls

theorem slT_string : SlType Try.prog 54 9 1 16 := by
  refine ⟨Try.underlying54, ⟨Try.t9, _, by kernel_rfl, (by kernel_rfl : Try.t9.zero = some (.string ⟨#[]⟩)), by kernel_rfl, by kernel_rfl, rfl⟩, by omega⟩
def srow (x : ByteArray) : List Value := [.string x]

theorem bonds_len {ls : List Sp.Letter} : (Sp.bonds ls).length ≤ 2 * ls.length := by
  have h : ∀ (bs : List Sp.Bond) (out : List Sp.Bond), (bs.foldl Sp.addBond out).length ≤ out.length + bs.length := by
    intro bs
    induction bs with
    | nil => intro out; simp
    | cons b bs ih => intro out; have := ih (Sp.addBond out b); have := addBond_len out b; simp only [List.foldl_cons, List.length_cons]; omega
  have h2 : ∀ (ls : List Sp.Letter) (i : Int) (out : List Sp.Bond), (Sp.bondsFrom i ls out).length ≤ out.length + 2 * ls.length := by
    intro ls
    induction ls with
    | nil => intro i out; simp [Sp.bondsFrom]
    | cons l ls ih =>
      intro i out
      rw [Sp.bondsFrom]
      have hbl : (Sp.bondsOf l i).length ≤ 2 := by
        unfold Sp.bondsOf; repeat' split
        all_goals simp
      have := ih (i + 1) ((Sp.bondsOf l i).foldl Sp.addBond out)
      have := h (Sp.bondsOf l i) out
      simp only [List.length_cons]; omega
  have := h2 ls 0 []
  simpa [Sp.bonds] using this

theorem c_arb_Texts (pv : Option Addr) (sh : Sl) (ls : List Sp.Letter) (who c : Int) (w0 : World) (hR : Reads pv sh ls w0) (hn : ls.length ≤ 1000000) :
    Calls Try.prog 31 #[.pointer pv, sh.v, .int .i64 who, .int .u64 c] w0 (fun e w' => ∃ s : Sl, e = .returned s.v ∧ RetS w0 9 1 ((Sp.textsOf who c (Sp.bonds ls)).map srow) s w') := by
  suffices key : ∀ K : Sl → World → Prop, (∀ s w', RetS w0 9 1 ((Sp.textsOf who c (Sp.bonds ls)).map srow) s w' → K s w') → m_arbiter_Texts pv sh who c w0 K from
    w_arbiter_Texts _ _ _ _ w0 _ (key _ (fun _ _ h => h))
  intro K hK
  unfold m_arbiter_Texts
  refine (c_arb_Bonds pv sh ls w0 hR hn).mono ?_
  rintro _ w1 ⟨r1, rfl, hr1⟩
  have hbl := bonds_len (ls := ls)
  generalize Sp.bonds ls = bs at *
  have O1 := hr1.own' (Hst.start w0)
  have hlen : r1.len = bs.length := by rw [O1.len]; simp
  have hnil : ∀ b, Sl.nil.blk b → False := fun b hb => by obtain ⟨a, h, _⟩ := hb; cases h
  refine ⟨r1, rfl, hr1.kept, fun s i H w' => ∃ j : Nat, i = j ∧ j ≤ bs.length ∧ Pure w0 w' ∧ Own H w' 46 5 r1 (bs.map brow) ∧ Own H w' 9 1 s ((Sp.textsOf who c (bs.take j)).map srow) ∧ (∀ b, s.blk b → w0.heap.size ≤ b ∧ ¬ r1.blk b), fun _ i _ => ((bs.length : Int) - i).toNat,
    ⟨0, rfl, Nat.zero_le _, hr1.pure, O1, by simpa [Sp.textsOf] using Own.nil _ _, fun b h => (hnil b h).elim⟩, ?_⟩
  rintro s _ Hl wl hl ⟨j, rfl, hj, El, Ol, Os, hsb⟩
  unfold m_arbiter_Texts_l1
  refine ⟨fun h => ?_, fun h => ?_⟩
  · have hlt := lt_of_dec hlen h
    obtain ⟨a, hat, hrow⟩ := Ol.nth hlt
    have htk : bs.take (j + 1) = bs.take j ++ [bs[j]] := List.take_succ_eq_append_getElem hlt
    have htx : Sp.textsOf who c (bs.take (j + 1)) = Sp.textsOf who c (bs.take j) ++ Sp.textsOf who c [bs[j]] := by
      rw [htk]; simp only [Sp.textsOf, List.filter_append, List.map_append]
    refine ⟨a, hat, _, _, _, _, _, hrow, fun h => ?_, fun h => ?_⟩
    · have hone : Sp.textsOf who c [bs[j]] = [bs[j].text] := by simp only [Sp.textsOf, List.filter_cons, h, if_true, List.filter_nil, List.map_cons, List.map_nil]
      intro H2 w4 hs4 p3 w5 h5
      have E5 : Pure w4 w5 := Ext.new h5
      have hll : (Sp.textsOf who c (bs.take j)).length ≤ j := by
        have := List.length_filter_le (fun b : Sp.Bond => b.who == who && b.c == c) (bs.take j)
        simp only [Sp.textsOf, List.length_map]; simp at this; omega
      obtain ⟨s', w6, hr6, hO6, hE6, hk6, hb6⟩ := ((Os.hst hs4).pure E5).append (P := Try.prog) (ty := 54) (c := 1) slT_string (hs4.again E5.keptP) (r := srow bs[j].text) (Box.of_new h5).row rfl rfl (by simp; omega) (by simp [maxLen]; omega)
      refine ⟨s', w6, hr6, hk6, ?_⟩
      rw [wrap_succ hlt (by omega)]
      have E4 := (El.hst hs4).trans E5
      have O4 := (Ol.hst hs4).pure E5
      refine ⟨⟨j + 1, rfl, hlt, E4.trans' hE6 (fun i hi hb => by have := (hsb i hb).1; omega), O4.ext hE6 (fun b hb hs => (hsb b hs).2 hb), ?_, fun b hb => ?_⟩, lt_dec hlt⟩
      · rw [htx, hone]; simpa using hO6
      · rcases hb6 b hb with h' | h'
        · exact hsb b h'
        · exact ⟨by have := E4.size; omega, fun hr => by have := O4.rows.lt hr; omega⟩
    · have hone : Sp.textsOf who c [bs[j]] = [] := by simp only [Sp.textsOf, List.filter_cons, h, Bool.false_eq_true, if_false, List.filter_nil, List.map_nil]
      intro H2 w4 hs4
      rw [wrap_succ hlt (by omega)]
      refine ⟨⟨j + 1, rfl, hlt, El.hst hs4, Ol.hst hs4, ?_, hsb⟩, lt_dec hlt⟩
      rw [htx, hone, List.append_nil]; exact Os.hst hs4
  · have hge := eq_of_dec hlen hj h
    subst hge
    rw [List.take_length] at Os
    exact hK _ _ ⟨Os.rows, fun b hb => (hsb b hb).1, El⟩
end Go.Proofs
