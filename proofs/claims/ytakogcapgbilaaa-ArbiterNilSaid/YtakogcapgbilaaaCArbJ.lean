/- Contracts: escrow/arbiter, Judge, Void, Even. -/
import Derived.Test.YtakogcapgbilaaaCArbR
import Derived.Test.YtakogcapgbilaaaG13
open Go Go.SE
namespace Go.Sp
def voidFrom (c : Int) (token : Bool) : List Letter → Bool
  | [] => token
  | l :: ls => if l.c = c ∧ l.kind = 6 then false else voidFrom c (token || (l.c == c && l.kind == 5)) ls
end Go.Sp
namespace Go.Proofs
attribute [local irreducible] Calls

theorem c_arb_Judge (pv : Option Addr) (sh : Sl) (ls : List Sp.Letter) (who c : Int) (x : ByteArray) (w0 : World) (hR : Reads pv sh ls w0) (hn : ls.length ≤ 1000000) :
    Calls Try.prog 24 #[.pointer pv, sh.v, .agg #[.int .i64 who, .int .u64 c, .string x]] w0 (fun e w' => ∃ b : Bool, ∃ y : Int, ∃ i : Int, e = .returned (.agg #[.bool b, .int .i64 y, .int .i64 i]) ∧ ((b, y, i) = Sp.judgeFrom who c x 0 ls ∧ Pure w0 w')) := by
  suffices key : ∀ K : Bool → Int → Int → World → Prop, (∀ b y i w', ((b, y, i) = Sp.judgeFrom who c x 0 ls ∧ Pure w0 w') → K b y i w') → m_arbiter_Judge pv sh who c x w0 K from
    w_arbiter_Judge _ _ _ _ _ w0 _ (key _ (fun _ _ _ _ h => h))
  intro K hK
  unfold m_arbiter_Judge
  intro H2 w2 hs2
  have E2 := hs2.first
  refine (hR w2 E2).mono ?_
  rintro _ w3 ⟨r1, rfl, hr1⟩
  have O3 := hr1.own' hs2
  have hlen : r1.len = ls.length := by rw [O3.len]; simp
  refine ⟨r1, rfl, hr1.kept, fun x' _ _ _ H w' => ∃ j : Nat, x' = j ∧ j ≤ ls.length ∧ Pure w0 w' ∧ Own H w' 132 5 r1 (ls.map lrow) ∧ Sp.judgeFrom who c x 0 ls = Sp.judgeFrom who c x j (ls.drop j), fun x' _ _ _ _ => ((ls.length : Int) - x').toNat, ⟨0, rfl, Nat.zero_le _, E2.trans hr1.pure, O3, rfl⟩, ?_⟩
  rintro _ _ _ _ Hl wl hl ⟨j, rfl, hj, El, Ol, heq⟩
  unfold m_arbiter_Judge_l1
  refine ⟨fun h => ?_, fun h => ?_⟩
  · have hlt := lt_of_dec hlen h
    obtain ⟨a, hat, hrow⟩ := Ol.nth hlt
    rw [List.drop_eq_getElem_cons hlt, Sp.judgeFrom] at heq
    generalize ls[j] = l at *
    refine ⟨a, hat, _, _, _, _, _, hrow, ?_⟩
    intro H5 w5 hs5
    have E5 := El.hst hs5
    have O5 := Ol.hst hs5
    refine (c_arb_bonds l.kind l.frm l.c l.text l.fake j w5).mono ?_
    rintro _ w6 ⟨r2, rfl, hr2⟩
    have hll : (⟨l.kind, l.frm, l.c, l.text, l.fake⟩ : Sp.Letter) = l := rfl
    rw [hll] at hr2
    have hbl : (Sp.bondsOf l j).length ≤ 2 := by
      unfold Sp.bondsOf; repeat' split
      all_goals simp
    generalize Sp.bondsOf l j = bs at *
    have O6 := hr2.own' hs5
    have hl2 : r2.len = bs.length := by rw [O6.len]; simp
    refine ⟨r2, rfl, hr2.kept, fun x' _ _ _ H w' => ∃ m : Nat, x' = m ∧ m ≤ bs.length ∧ Pure w0 w' ∧ Own H w' 132 5 r1 (ls.map lrow) ∧ Own H w' 46 5 r2 (bs.map brow) ∧ Sp.judgeBonds who c x j bs = Sp.judgeBonds who c x j (bs.drop m), fun x' _ _ _ _ => ((bs.length : Int) - x').toNat, ⟨0, rfl, Nat.zero_le _, E5.trans hr2.pure, O5.pure hr2.pure, O6, rfl⟩, ?_⟩
    rintro _ _ _ _ Hm wm hm ⟨m, rfl, hmle, Em, Om, Om2, heqm⟩
    unfold m_arbiter_Judge_l2
    refine ⟨fun h => ?_, fun h => ?_⟩
    · have hlt2 := lt_of_dec hl2 h
      obtain ⟨a2, hat2, hrow2⟩ := Om2.nth hlt2
      rw [List.drop_eq_getElem_cons hlt2] at heqm
      generalize bs[m] = b at *
      refine ⟨a2, hat2, _, _, _, _, _, hrow2, fun h => ?_, fun h => ?_⟩
      · intro H6 w12 hs6
        have hc : b.who = who ∧ b.c = c ∧ b.text = x := by simpa [and_assoc] using h
        rw [Sp.judgeBonds, if_pos hc] at heqm
        rw [heqm] at heq
        exact hK _ _ _ _ ⟨by rw [heq], Em.hst hs6⟩
      · intro H6 w10 hs6
        have hc : ¬ (b.who = who ∧ b.c = c ∧ b.text = x) := fun hc => by simp [hc.1, hc.2.1, hc.2.2] at h
        rw [Sp.judgeBonds, if_neg hc] at heqm
        rw [wrap_succ hlt2 (by omega)]
        exact ⟨⟨m + 1, rfl, hlt2, Em.hst hs6, Om.hst hs6, Om2.hst hs6, heqm⟩, lt_dec hlt2⟩
    · have hge := eq_of_dec hl2 hmle h
      subst hge
      rw [List.drop_length] at heqm
      have heqm : Sp.judgeBonds who c x j bs = none := heqm
      rw [heqm] at heq
      rw [wrap_succ hlt (by omega)]
      exact ⟨⟨j + 1, rfl, hlt, Em, Om, by simpa using heq⟩, lt_dec hlt⟩
  · have hge := eq_of_dec hlen hj h
    subst hge
    rw [List.drop_length] at heq
    intro w13 hs13
    exact hK _ _ _ _ ⟨by rw [heq]; rfl, El.hst hs13⟩

theorem c_arb_Void (pv : Option Addr) (sh : Sl) (ls : List Sp.Letter) (c : Int) (w0 : World) (hR : Reads pv sh ls w0) (hn : ls.length ≤ 1000000) :
    Calls Try.prog 26 #[.pointer pv, sh.v, .int .u64 c] w0 (fun e w' => ∃ b : Bool, e = .returned (.bool b) ∧ (b = Sp.voidFrom c false ls ∧ Pure w0 w')) := by
  suffices key : ∀ K : Bool → World → Prop, (∀ b w', (b = Sp.voidFrom c false ls ∧ Pure w0 w') → K b w') → m_arbiter_Void pv sh c w0 K from
    w_arbiter_Void _ _ _ w0 _ (key _ (fun _ _ h => h))
  intro K hK
  unfold m_arbiter_Void
  refine (hR w0 (Ext.refl _)).mono ?_
  rintro _ w3 ⟨r1, rfl, hr1⟩
  have O3 := hr1.own' (Hst.start w0)
  have hlen : r1.len = ls.length := by rw [O3.len]; simp
  refine ⟨r1, rfl, hr1.kept, fun t x' H w' => ∃ j : Nat, x' = j ∧ j ≤ ls.length ∧ Pure w0 w' ∧ Own H w' 132 5 r1 (ls.map lrow) ∧ Sp.voidFrom c false ls = Sp.voidFrom c t (ls.drop j), fun _ x' _ => ((ls.length : Int) - x').toNat, ⟨0, rfl, Nat.zero_le _, hr1.pure, O3, rfl⟩, ?_⟩
  rintro t _ Hl wl hl ⟨j, rfl, hj, El, Ol, heq⟩
  unfold m_arbiter_Void_l1
  refine ⟨fun h => ?_, fun h => ?_⟩
  · have hlt := lt_of_dec hlen h
    obtain ⟨a, hat, hrow⟩ := Ol.nth hlt
    rw [List.drop_eq_getElem_cons hlt, Sp.voidFrom] at heq
    generalize ls[j] = l at *
    refine ⟨a, hat, _, _, _, _, _, hrow, fun h => ?_, fun h => ?_⟩
    · intro H5 w5 hs5
      rw [if_pos (by simpa using h)] at heq
      exact hK _ _ ⟨heq.symm, El.hst hs5⟩
    · intro H5 w5 hs5
      rw [if_neg (fun hc => by simp [hc.1, hc.2] at h)] at heq
      rw [wrap_succ hlt (by omega)]
      exact ⟨⟨j + 1, rfl, hlt, El.hst hs5, Ol.hst hs5, heq⟩, lt_dec hlt⟩
  · have hge := eq_of_dec hlen hj h
    subst hge
    rw [List.drop_length] at heq
    exact hK _ _ ⟨heq.symm, El⟩

theorem c_arb_Even (pv : Option Addr) (sh : Sl) (ls : List Sp.Letter) (c : Int) (x : ByteArray) (w0 : World) (hR : Reads pv sh ls w0) (hn : ls.length ≤ 1000000) :
    Calls Try.prog 28 #[.pointer pv, sh.v, .int .u64 c, .string x] w0 (fun e w' => ∃ b : Bool, e = .returned (.bool b) ∧ (b = ((Sp.judgeFrom 0 c x 0 ls).1 == (Sp.judgeFrom 1 c x 0 ls).1) ∧ Pure w0 w')) := by
  suffices key : ∀ K : Bool → World → Prop, (∀ b w', (b = ((Sp.judgeFrom 0 c x 0 ls).1 == (Sp.judgeFrom 1 c x 0 ls).1) ∧ Pure w0 w') → K b w') → m_arbiter_Even pv sh c x w0 K from
    w_arbiter_Even _ _ _ _ w0 _ (key _ (fun _ _ h => h))
  intro K hK
  unfold m_arbiter_Even
  refine (c_arb_Judge pv sh ls 0 c x w0 hR hn).mono ?_
  rintro _ w1 ⟨b1, y1, i1, rfl, hj1, E1⟩
  refine ⟨_, _, _, rfl, E1.keptP, ?_⟩
  intro H1 w3 hs3
  have E3 := E1.hst hs3
  refine (c_arb_Judge pv sh ls 1 c x w3 (hR.pure E3) hn).mono ?_
  rintro _ w4 ⟨b2, y2, i2, rfl, hj2, E4⟩
  refine ⟨_, _, _, rfl, E4.keptP, ?_⟩
  intro H2 w6 hs6
  exact hK _ _ ⟨by rw [← hj1, ← hj2], (E3.trans E4).hst hs6⟩
end Go.Proofs
