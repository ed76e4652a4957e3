/- Contracts: escrow/arbiter, Bonds, Texts. -/
import Derived.Test.YtakogcapgbilaaaCArbJ
import Derived.Test.YtakogcapgbilaaaSeL
open Go Go.SE
namespace Go.Sp
/-- What a bond says: who, of which contract, to which text. -/
structure Says where
  who : Int
  c : Int
  text : ByteArray
deriving DecidableEq
def Bond.says (b : Bond) : Says := ⟨b.who, b.c, b.text⟩
def addBond (out : List Bond) (b : Bond) : List Bond := if b.says ∈ out.map Bond.says then out else out ++ [b]
def bondsFrom : Int → List Letter → List Bond → List Bond
  | _, [], out => out
  | i, l :: ls, out => bondsFrom (i + 1) ls ((bondsOf l i).foldl addBond out)
def bonds (ls : List Letter) : List Bond := bondsFrom 0 ls []
def textsOf (who c : Int) (bs : List Bond) : List ByteArray := (bs.filter fun b => b.who == who && b.c == c).map Bond.text
end Go.Sp
namespace Go.Proofs
attribute [local irreducible] Calls

def ckey (k : Sp.Says) : Value := .agg #[.int .i64 k.who, .int .u64 k.c, .string k.text]
def IsClaim (v : Value) : Prop := ∃ k, v = ckey k
theorem ckey_inj {a b : Sp.Says} : ckey a = ckey b ↔ a = b := by
  constructor
  · intro h
    obtain ⟨a1, a2, a3⟩ := a; obtain ⟨b1, b2, b3⟩ := b
    simp [ckey] at h
    simp [h]
  · rintro rfl; rfl
theorem keyOK_claim : KeyOK Try.prog 40 IsClaim := by
  refine KeyOK.of_struct Try.underlying40 ?_ ?_ ?_
  · rintro _ ⟨n, rfl⟩ em w; kernel_rfl
  · rintro _ _ w ⟨n, rfl⟩ ⟨n', rfl⟩
    refine ⟨decide (n = n'), ?_, by simp only [ckey_inj, decide_eq_true_eq]; exact eq_comm⟩
    obtain ⟨k, f, t⟩ := n
    obtain ⟨k', f', t'⟩ := n'
    simp [Op.equal, Op.maxDepth, go_sem, streq, ckey]
    repeat' split
    all_goals simp_all
  · rintro _ ⟨n, rfl⟩
    have h : ∀ d, Instr.sameBits (d + 1) (ckey n) (ckey n) = true := fun d => by
      have e : (n.text == n.text) = true := by rw [beq_toListBytes]; simp
      cases d <;> simp [Instr.sameBits, ckey, e]
    exact h 9999

/-- The bonds so far, and the map of those that are there. -/
structure BondsAt (w0 : World) (H : Nat → Prop) (w : World) (m : Nat) (s : Sl) (out : List Sp.Bond) (ks : List (Sp.Says)) (B : Int) : Prop where
  pure : Pure w0 w
  map : CntMap w m (ks.map ckey) B
  rows : Own H w 46 5 s (out.map brow)
  own : ∀ b, s.blk b → w0.heap.size ≤ b
  mown : w0.heap.size ≤ m
  mvis : ¬ H m
  ne : ¬ s.blk m
theorem BondsAt.hst {w0 w w1 : World} {H H1 : Nat → Prop} {m : Nat} {s : Sl} {out : List Sp.Bond} {ks : List (Sp.Says)} {B : Int} (h : BondsAt w0 H w m s out ks B) (hs : Hst w0 H w H1 w1) : BondsAt w0 H1 w1 m s out ks B :=
  have hm : ¬ H1 m := hs.disj (G := (· = m)) (fun b e => by subst e; exact ⟨h.map.lt, h.mvis⟩) m rfl
  ⟨h.pure.hst hs, h.map.ext hs.ext hm, h.rows.hst hs, h.own, h.mown, hm, h.ne⟩
theorem BondsAt.pureE {w0 w w1 : World} {H : Nat → Prop} {m : Nat} {s : Sl} {out : List Sp.Bond} {ks : List (Sp.Says)} {B : Int} (h : BondsAt w0 H w m s out ks B) (E : Pure w w1) : BondsAt w0 H w1 m s out ks B :=
  ⟨h.pure.trans E, h.map.ext E id, h.rows.pure E, h.own, h.mown, h.mvis, h.ne⟩
theorem claims_are {ks : List (Sp.Says)} : ∀ k ∈ ks.map ckey, IsClaim k := by
  intro k hk; obtain ⟨x, _, rfl⟩ := List.mem_map.1 hk; exact ⟨x, rfl⟩
theorem mem_ckey {ks : List (Sp.Says)} {k : Sp.Says} : ckey k ∈ ks.map ckey ↔ k ∈ ks := by
  constructor
  · intro h; obtain ⟨x, hx, he⟩ := List.mem_map.1 h; rw [ckey_inj] at he; subst he; exact hx
  · intro h; exact List.mem_map.2 ⟨k, h, rfl⟩

theorem bonds_j3 {w0 w : World} {H : Nat → Prop} {m : Addr} {s : Sl} {out : List Sp.Bond} {ks : List (Sp.Says)} {B : Int} (h : BondsAt w0 H w m.block s out ks B) (hB : 0 ≤ B) (hB2 : B ≤ 100000000) (x2 who c : Int) (x : ByteArray) {Kc : Sl → Int → (Nat → Prop) → World → Prop} {K : Sl → World → Prop}
    (hK : ∀ w' ks', ((⟨who, c, x⟩ ∈ ks ∧ ks' = ks) ∨ (⟨who, c, x⟩ ∉ ks ∧ ks' = ks ++ [⟨who, c, x⟩])) → BondsAt w0 H w' m.block s out ks' (B + 1) → Ext (· = m.block) w w' → Kc s (IntKind.i64.wrap (x2 + 1)) H w') :
    m_arbiter_Bonds_j3 m x2 who c x s H w Kc K := by
  unfold m_arbiter_Bonds_j3
  obtain ⟨v, w1, z, hv0, hvB, hl, he, hl1, hE1, hst⟩ := (h.map.ext (F := None) (Ext.drew w) id).bump (P := Try.prog) (T := 141) Try.underlying141 keyOK_claim claims_are ⟨⟨who, c, x⟩, rfl⟩ (Try.zeroValue3) hB
  refine ⟨fun w' => (Instr.lookup 141 (.map (some m.block)) (ckey ⟨who, c, x⟩) false).run Try.prog w' = .ok (.int .i64 v) w', hl, ?_⟩
  rintro _ rfl
  have k1 : Kept H w.drew w1 := hE1.kept (fun b hb e => h.mvis (e ▸ hb))
  refine ⟨v, fun w' h' => h', v, z, w1, he, hl1, k1, ?_⟩
  obtain ⟨w3, ks', hr3, hks, hM3, hE3⟩ := hst (Ext.refl (F := None) w1) id
  have hw : IntKind.i64.wrap (v + 1) = v + 1 := by rw [IntWalk.i64_in _ (by omega)]
  rw [hw]
  refine ⟨w3, hr3, hE3.kept (fun b hb e => h.mvis (e ▸ hb)), ?_⟩
  have hE : Ext (· = m.block) w w3 := ((Ext.drew w).trans hE1).trans hE3
  have hsb : ∀ b, s.blk b → ¬ b = m.block := fun b hb e => h.ne (e ▸ hb)
  have fin : ∀ kk, ks' = kk.map ckey → (((⟨who, c, x⟩ ∈ ks ∧ kk = ks) ∨ (⟨who, c, x⟩ ∉ ks ∧ kk = ks ++ [⟨who, c, x⟩]))) → Kc s (IntKind.i64.wrap (x2 + 1)) H w3 := by
    intro kk hkk hor
    refine hK w3 kk hor ⟨h.pure.trans' hE (fun i hi e => by subst e; exact absurd h.mown (by omega)), by rw [← hkk]; exact hM3, h.rows.ext hE hsb, h.own, h.mown, h.mvis, h.ne⟩ hE
  rcases hks with ⟨h1, h2⟩ | ⟨h1, h2⟩
  · exact fin ks h2 (.inl ⟨mem_ckey.1 h1, rfl⟩)
  · exact fin (ks ++ [⟨who, c, x⟩]) (by rw [h2]; simp) (.inr ⟨fun hm => h1 (mem_ckey.2 hm), rfl⟩)

theorem addBond_len (out : List Sp.Bond) (b : Sp.Bond) : (Sp.addBond out b).length ≤ out.length + 1 := by
  unfold Sp.addBond; split <;> simp

theorem c_arb_Bonds (pv : Option Addr) (sh : Sl) (ls : List Sp.Letter) (w0 : World) (hR : Reads pv sh ls w0) (hn : ls.length ≤ 1000000) :
    Calls Try.prog 19 #[.pointer pv, sh.v] w0 (fun e w' => ∃ s : Sl, e = .returned s.v ∧ RetS w0 46 5 ((Sp.bonds ls).map brow) s w') := by
  suffices key : ∀ K : Sl → World → Prop, (∀ s w', RetS w0 46 5 ((Sp.bonds ls).map brow) s w' → K s w') → m_arbiter_Bonds pv sh w0 K from
    w_arbiter_Bonds _ _ w0 _ (key _ (fun _ _ h => h))
  intro K hK
  unfold m_arbiter_Bonds
  intro m w1 h1
  have E1 : Pure w0 w1 := Ext.new h1
  have om := New.own (Ext.refl w0) h1
  refine (hR w1 E1).mono ?_
  rintro _ w2 ⟨r1, rfl, hr1⟩
  have hm1 : CntMap w1 m.block (([] : List (Sp.Says)).map ckey) 0 := CntMap.of_new h1 0
  have O1 := hr1.own' ((Hst.start w0).pure E1)
  have hlen : r1.len = ls.length := by rw [O1.len]; simp
  have hrm : ∀ b, r1.blk b → b ≠ m.block := fun b hb e => by have := hr1.own b hb; have := hm1.lt; omega
  have hnil : ∀ b, Sl.nil.blk b → False := fun b hb => by obtain ⟨a, h, _⟩ := hb; cases h
  refine ⟨r1, rfl, hr1.kept, fun s i H w' => ∃ j : Nat, i = j ∧ j ≤ ls.length ∧ ∃ out, out.length ≤ 2 * j ∧ BondsAt w0 H w' m.block s out (out.map Sp.Bond.says) (2 * j) ∧ Own H w' 132 5 r1 (ls.map lrow) ∧ (∀ b, s.blk b → ¬ r1.blk b) ∧ Sp.bonds ls = Sp.bondsFrom j (ls.drop j) out, fun _ i _ => ((ls.length : Int) - i).toNat,
    ⟨0, rfl, Nat.zero_le _, [], by simp, ⟨E1.trans hr1.pure, hm1.ext hr1.pure id, Own.nil _ _, fun b h => (hnil b h).elim, om, id, fun h => hnil _ h⟩, O1, fun b h => (hnil b h).elim, rfl⟩, ?_⟩
  rintro s _ Hl wl hl ⟨j, rfl, hj, out, hol, hA, Ol, hsr, heq⟩
  unfold m_arbiter_Bonds_l1
  refine ⟨fun h => ?_, fun h => ?_⟩
  · have hlt := lt_of_dec hlen h
    obtain ⟨a, hat, hrow⟩ := Ol.nth hlt
    rw [List.drop_eq_getElem_cons hlt, Sp.bondsFrom] at heq
    generalize ls[j] = l at *
    refine ⟨a, hat, _, _, _, _, _, hrow, ?_⟩
    intro H4 w4 hs4
    refine (c_arb_bonds l.kind l.frm l.c l.text l.fake j w4).mono ?_
    rintro _ w5 ⟨r2, rfl, hr2⟩
    have hll : (⟨l.kind, l.frm, l.c, l.text, l.fake⟩ : Sp.Letter) = l := rfl
    rw [hll] at hr2
    have hbl : (Sp.bondsOf l j).length ≤ 2 := by
      unfold Sp.bondsOf; repeat' split
      all_goals simp
    generalize Sp.bondsOf l j = bs at *
    have O5 := hr2.own' hs4
    have hl2 : r2.len = bs.length := by rw [O5.len]; simp
    have hA4 := hA.hst hs4
    have hlm : m.block < w4.heap.size := hA4.map.lt
    refine ⟨r2, rfl, hr2.kept, fun s i H w' => ∃ k : Nat, i = k ∧ k ≤ bs.length ∧ ∃ out', out'.length ≤ out.length + k ∧ BondsAt w0 H w' m.block s out' (out'.map Sp.Bond.says) (2 * j + k) ∧ Own H w' 132 5 r1 (ls.map lrow) ∧ Own H w' 46 5 r2 (bs.map brow) ∧ (∀ b, s.blk b → ¬ r1.blk b) ∧ (∀ b, s.blk b → ¬ r2.blk b) ∧ bs.foldl Sp.addBond out = (bs.drop k).foldl Sp.addBond out', fun _ i _ => ((bs.length : Int) - i).toNat,
      ⟨0, rfl, Nat.zero_le _, out, by simp, by simpa using hA4.pureE hr2.pure, (Ol.hst hs4).pure hr2.pure, O5, hsr, fun b hb h2 => by have := hr2.own b h2; have := hA4.rows.rows.lt hb; omega, rfl⟩, ?_⟩
    rintro s _ Hm wm hm ⟨k, rfl, hk, out', hol', hAm, Om, Om2, hsr', hsr2, hfold⟩
    unfold m_arbiter_Bonds_l2
    refine ⟨fun h => ?_, fun h => ?_⟩
    · have hlt2 := lt_of_dec hl2 h
      obtain ⟨a2, hat2, hrow2⟩ := Om2.nth hlt2
      rw [List.drop_eq_getElem_cons hlt2, List.foldl_cons] at hfold
      generalize bs[k] = b at *
      refine ⟨a2, hat2, _, _, _, _, _, hrow2, ?_⟩
      intro H9 w9 hs9
      have hA9 := hAm.hst hs9
      have O9 := Om.hst hs9
      have O92 := Om2.hst hs9
      have hrm2 : ∀ b, r2.blk b → b ≠ m.block := fun b hb e => by have := hr2.own b hb; omega
      obtain ⟨v, hl9, hv⟩ := hA9.map.look (P := Try.prog) (T := 141) Try.underlying141 keyOK_claim claims_are ⟨b.says, rfl⟩ (Try.zeroValue3)
      refine ⟨v, hl9, fun h => ?_, fun h => ?_⟩
      · -- one bond more
        have hno : b.says ∉ out'.map Sp.Bond.says := by
          have : v = 0 := by simpa using h
          rcases hv with ⟨_, h1, _⟩ | ⟨h1, _⟩
          · omega
          · exact fun hm => h1 (mem_ckey.2 hm)
        have hadd : Sp.addBond out' b = out' ++ [b] := by unfold Sp.addBond; rw [if_neg hno]
        rw [hadd] at hfold
        intro p6 w13 h13
        have E13 : Pure w9 w13 := Ext.new h13
        have b6 := Box.of_new h13
        have hA13 := hA9.pureE E13
        obtain ⟨s', w14, hr14, hO14, hE14, hk14, hb14⟩ := hA13.rows.append (P := Try.prog) (ty := 31) (c := 1) slT_bond (hm.trans hs9 |>.again E13.keptP) (r := brow b) b6.row rfl rfl (by simp; omega) (by simp [maxLen]; omega)
        refine ⟨s', w14, hr14, hk14, ?_⟩
        have hs'm : ¬ s'.blk m.block := fun h => (hb14 _ h).elim hA13.ne (fun h => by have := hA13.map.lt; omega)
        have hA14 : BondsAt w0 H9 w14 m.block s' (out' ++ [b]) (out'.map Sp.Bond.says) (2 * j + k) := by
          refine ⟨append_own hA13.rows hA13.pure hE14 hA13.own, hA13.map.ext hE14 hA13.ne, by simpa using hO14, fun b hb => (hb14 b hb).elim (hA13.own b) (fun h => by have := hA13.pure.size; omega), hA13.mown, hA13.mvis, hs'm⟩
        have hr1b : ∀ b, r1.blk b → b < w9.heap.size := fun b hb => O9.rows.lt hb
        have hr2b : ∀ b, r2.blk b → b < w9.heap.size := fun b hb => O92.rows.lt hb
        have O14 : Own H9 w14 132 5 r1 (ls.map lrow) := (O9.pure E13).ext hE14 (fun b hb hs => hsr' b hs hb)
        have O142 : Own H9 w14 46 5 r2 (bs.map brow) := (O92.pure E13).ext hE14 (fun b hb hs => hsr2 b hs hb)
        refine bonds_j3 hA14 (by omega) (by omega) _ _ _ _ ?_
        intro w' ks' hor hA' hE'
        have hks : ks' = (out' ++ [b]).map Sp.Bond.says := by
          rcases hor with ⟨h, _⟩ | ⟨_, h⟩
          · exact absurd h hno
          · rw [h]; simp [Sp.Bond.says]
        rw [wrap_succ hlt2 (by omega)]
        refine ⟨⟨k + 1, rfl, hlt2, out' ++ [b], by simp; omega, ?_, O14.ext hE' (fun b hb e => hrm b hb e), O142.ext hE' (fun b hb e => hrm2 b hb e), ?_, ?_, hfold⟩, lt_dec hlt2⟩
        · rw [← hks]; have e : ((2 * (j : Int)) + ((k + 1 : Nat) : Int)) = 2 * j + k + 1 := by omega
          rw [e]; exact hA'
        · intro b hb hr; exact (hb14 b hb).elim (fun h => hsr' b h hr) (fun h => by have := hr1b b hr; have := E13.size; omega)
        · intro b hb hr; exact (hb14 b hb).elim (fun h => hsr2 b h hr) (fun h => by have := hr2b b hr; have := E13.size; omega)
      · have hyes : b.says ∈ out'.map Sp.Bond.says := by
          have : v ≠ 0 := by simpa using h
          rcases hv with ⟨h1, _⟩ | ⟨_, h1⟩
          · exact mem_ckey.1 h1
          · exact absurd h1 this
        have hadd : Sp.addBond out' b = out' := by unfold Sp.addBond; rw [if_pos hyes]
        rw [hadd] at hfold
        refine bonds_j3 hA9 (by omega) (by omega) _ _ _ _ ?_
        intro w' ks' hor hA' hE'
        have hks : ks' = out'.map Sp.Bond.says := by
          rcases hor with ⟨_, h⟩ | ⟨h, _⟩
          · exact h
          · exact absurd hyes h
        rw [wrap_succ hlt2 (by omega)]
        refine ⟨⟨k + 1, rfl, hlt2, out', by omega, ?_, O9.ext hE' (fun b hb e => hrm b hb e), O92.ext hE' (fun b hb e => hrm2 b hb e), hsr', hsr2, hfold⟩, lt_dec hlt2⟩
        rw [← hks]; have e : ((2 * (j : Int)) + ((k + 1 : Nat) : Int)) = 2 * j + k + 1 := by omega
        rw [e]; exact hA'
    · have hge := eq_of_dec hl2 hk h
      subst hge
      rw [List.drop_length] at hfold
      rw [hfold, List.foldl_nil] at heq
      rw [wrap_succ hlt (by omega)]
      refine ⟨⟨j + 1, rfl, hlt, out', by omega, ?_, Om, hsr', by simpa using heq⟩, lt_dec hlt⟩
      exact ⟨hAm.pure, hAm.map.mono (by omega), hAm.rows, hAm.own, hAm.mown, hAm.mvis, hAm.ne⟩
  · have hge := eq_of_dec hlen hj h
    subst hge
    rw [List.drop_length] at heq
    exact hK _ _ ⟨by rw [heq]; exact hA.rows.rows, hA.own, hA.pure⟩
end Go.Proofs
