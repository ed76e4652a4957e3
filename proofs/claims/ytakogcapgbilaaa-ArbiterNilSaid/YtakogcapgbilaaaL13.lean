import Derived.Test.YtakogcapgbilaaaProg
import Derived.KernelRfl
import Derived.Test.YtakogcapgbilaaaSeM
import Derived.Test.YtakogcapgbilaaaCArbR
import Derived.Test.YtakogcapgbilaaaG13
open Go Go.SE
namespace Go.Proofs
attribute [local irreducible] wpL wpX opE wpE Calls
theorem eqt_law13_live_eql_43 (a0 : Bool) (a1 : Int) (a2 : Int) (b0 : Bool) (b1 : Int) (b2 : Int) (w : World) : (Go.binOp .eql 43 (.agg #[(.bool a0), (.int .i64 a1), (.int .i64 a2)]) (.agg #[(.bool b0), (.int .i64 b1), (.int .i64 b2)])).run Try.prog w = .ok (.bool ((a0 == b0) && (((a1 : Int) == b1) && ((a2 : Int) == b2)))) w := by
  simp [Go.binOp, Op.equal, Op.maxDepth, go_sem, streq, bne]
  repeat' split
  all_goals simp_all

theorem eqt_law13_live_eql_134 (a0 : Int) (a1 : Int) (a2 : Int) (a3 : Int) (a4 : Int) (b0 : Int) (b1 : Int) (b2 : Int) (b3 : Int) (b4 : Int) (w : World) : (Go.binOp .eql 134 (.agg #[(.int .i64 a0), (.int .u64 a1), (.int .i64 a2), (.int .i64 a3), (.int .i64 a4)]) (.agg #[(.int .i64 b0), (.int .u64 b1), (.int .i64 b2), (.int .i64 b3), (.int .i64 b4)])).run Try.prog w = .ok (.bool (((a0 : Int) == b0) && (((a1 : Int) == b1) && (((a2 : Int) == b2) && (((a3 : Int) == b3) && ((a4 : Int) == b4)))))) w := by
  simp [Go.binOp, Op.equal, Op.maxDepth, go_sem, streq, bne]
  repeat' split
  all_goals simp_all

def m_law13_live  (w0 : World) (K : Bool → World → Prop) : Prop :=
  Calls Try.prog 72 #[] w0 (fun e w1 => ∃ r1 : Option Addr, e = .returned (.pointer r1) ∧ 
    Kept None w0 w1 ∧
    Br (Option.isNone r1)
      (K false w1)
      (Calls Try.prog 74 #[(.agg #[(.int .i64 2), (.int .i64 1), (.int .u64 7), (.string (⟨#[116]⟩ : ByteArray)), (.bool false)]), (.bool false), (.bool false)] w1 (fun e w2 => ∃ rKind1 : Int, ∃ rFrom1 : Int, ∃ rTo1 : Int, ∃ rNum1 : Int, ∃ rText1 : ByteArray, ∃ rKids1 : Sl, e = .returned (.agg #[(.int .i64 rKind1), (.int .i64 rFrom1), (.int .i64 rTo1), (.int .u64 rNum1), (.string rText1), rKids1.v]) ∧ 
        Kept None w1 w2 ∧
        Calls Try.prog 73 #[(.pointer r1), (.agg #[(.int .i64 rKind1), (.int .i64 rFrom1), (.int .i64 rTo1), (.int .u64 rNum1), (.string rText1), rKids1.v])] w2 (fun e w3 => ∃ r2 : Int, ∃ r3 : Int, e = .returned (.tuple #[(.int .i64 r2), (.int .i64 r3)]) ∧ 
          Kept None w2 w3 ∧
          Calls Try.prog 74 #[(.agg #[(.int .i64 1), (.int .i64 1), (.int .u64 7), (.string (⟨#[116]⟩ : ByteArray)), (.bool false)]), (.bool false), (.bool false)] w3 (fun e w4 => ∃ rKind2 : Int, ∃ rFrom2 : Int, ∃ rTo2 : Int, ∃ rNum2 : Int, ∃ rText2 : ByteArray, ∃ rKids2 : Sl, e = .returned (.agg #[(.int .i64 rKind2), (.int .i64 rFrom2), (.int .i64 rTo2), (.int .u64 rNum2), (.string rText2), rKids2.v]) ∧ 
            Kept None w3 w4 ∧
            Calls Try.prog 73 #[(.pointer r1), (.agg #[(.int .i64 rKind2), (.int .i64 rFrom2), (.int .i64 rTo2), (.int .u64 rNum2), (.string rText2), rKids2.v])] w4 (fun e w5 => ∃ r4 : Int, ∃ r5 : Int, e = .returned (.tuple #[(.int .i64 r4), (.int .i64 r5)]) ∧ 
              Kept None w4 w5 ∧
              Calls Try.prog 74 #[(.agg #[(.int .i64 2), (.int .i64 1), (.int .u64 7), (.string (⟨#[117]⟩ : ByteArray)), (.bool false)]), (.bool false), (.bool false)] w5 (fun e w6 => ∃ rKind3 : Int, ∃ rFrom3 : Int, ∃ rTo3 : Int, ∃ rNum3 : Int, ∃ rText3 : ByteArray, ∃ rKids3 : Sl, e = .returned (.agg #[(.int .i64 rKind3), (.int .i64 rFrom3), (.int .i64 rTo3), (.int .u64 rNum3), (.string rText3), rKids3.v]) ∧ 
                Kept None w5 w6 ∧
                Calls Try.prog 73 #[(.pointer r1), (.agg #[(.int .i64 rKind3), (.int .i64 rFrom3), (.int .i64 rTo3), (.int .u64 rNum3), (.string rText3), rKids3.v])] w6 (fun e w7 => ∃ r6 : Int, ∃ r7 : Int, e = .returned (.tuple #[(.int .i64 r6), (.int .i64 r7)]) ∧ 
                  Kept None w6 w7 ∧
                  Br ((((r3 : Int) != 0) || ((r5 : Int) != 0)) || ((r7 : Int) != 0))
                    (∀ (H2 : Nat → Prop) (w9 : World), Hst w0 None w7 H2 w9 →
                    K false w9)
                    (∀ (H2 : Nat → Prop) (w9 : World), Hst w0 None w7 H2 w9 →
                    ∀ (p1 : Addr) (w11 : World), New w9 (.cells #[(.int .i64 r4), (.int .i64 r2)] 41) p1 w11 →
                    Calls Try.prog 24 #[(.pointer r1), (Sl.mk (some p1) 2 2).v, (.agg #[(.int .i64 1), (.int .u64 7), (.string (⟨#[116]⟩ : ByteArray))])] w11 (fun e w12 => ∃ rBound1 : Bool, ∃ rWhy1 : Int, ∃ rBy1 : Int, e = .returned (.agg #[(.bool rBound1), (.int .i64 rWhy1), (.int .i64 rBy1)]) ∧ 
                      Kept H2 w11 w12 ∧
                      ∀ (H4 : Nat → Prop) (w14 : World), Hst w0 H2 w12 H4 w14 →
                      ∀ (p3 : Addr) (w15 : World), New w14 (.cells #[(.int .i64 r4)] 41) p3 w15 →
                      Calls Try.prog 24 #[(.pointer r1), (Sl.mk (some p3) 1 1).v, (.agg #[(.int .i64 1), (.int .u64 7), (.string (⟨#[116]⟩ : ByteArray))])] w15 (fun e w16 => ∃ rBound2 : Bool, ∃ rWhy2 : Int, ∃ rBy2 : Int, e = .returned (.agg #[(.bool rBound2), (.int .i64 rWhy2), (.int .i64 rBy2)]) ∧ 
                        Kept H4 w15 w16 ∧
                        ∀ (H5 : Nat → Prop) (w18 : World), Hst w0 H4 w16 H5 w18 →
                        ∀ (p5 : Addr) (w19 : World), New w18 (.cells #[(.int .i64 r2), (.int .i64 r4), (.int .i64 r6)] 41) p5 w19 →
                        Calls Try.prog 22 #[(.pointer r1), (Sl.mk (some p5) 3 3).v] w19 (fun e w20 => ∃ r8 : Sl, e = .returned r8.v ∧ 
                          Kept H5 w19 w20 ∧
                          ∀ y1 : Bool, y1 = (((rBound1 == true) && (((rWhy1 : Int) == 1) && ((rBy1 : Int) == 1))) && ((rBound2 == false) && (((rWhy2 : Int) == 0) && ((rBy2 : Int) == (-1))))) →
                          Br (y1 && (((r8.len : Int) : Int) == 1))
                            (∃ a1 : Addr, At r8 0 5 a1 ∧
                            ∀ (H7 : Nat → Prop) (w22 : World), Hst w0 H5 w20 H7 w22 →
                            ∃ vWho1 : Int, ∃ vC1 : Int, ∃ vKind1 : Int, ∃ vA1 : Int, ∃ vB1 : Int, Row w22 a1 [(.int .i64 vWho1), (.int .u64 vC1), (.int .i64 vKind1), (.int .i64 vA1), (.int .i64 vB1)] ∧
                            K (((vWho1 : Int) == 1) && (((vC1 : Int) == 7) && (((vKind1 : Int) == 1) && (((vA1 : Int) == 0) && ((vB1 : Int) == 2))))) w22)
                            (∀ (H7 : Nat → Prop) (w22 : World), Hst w0 H5 w20 H7 w22 →
                            K false w22)))))))))))))
set_option maxRecDepth 100000 in
set_option maxHeartbeats 4000000 in
theorem w_law13_live  (w0 : World) (K : Bool → World → Prop) (h : m_law13_live  w0 K) :
    Calls Try.prog 16 #[] w0 (fun e w' => ∃ r9 : Bool, e = .returned (.bool r9) ∧ K r9 w') := by
  unfold m_law13_live at h
  refine calls_of_wpE (args := []) Try.func16 rfl Try.ntmps16 (Nat.le_of_ble_eq_true rfl) ?_
  have hs := Hst.start w0
  have hb := HB.nil None w0
  refine wpE_seq ?_
  refine rg ?_
  refine q0 (.bool false) ?_
  refine wpL_nil ?_
  refine th_n ?_
  refine wpE_seq ?_
  refine rg ?_
  refine st_call (want0 rfl) (x_callE (args := #[]) Try.call72 (by kernel_rfl)) (h.mono ?_)
  clear h
  rintro e w1 ⟨r1, rfl, hk, h⟩
  refine ⟨_, rfl, ?_⟩
  replace hs := hs.again hk
  replace hb := hb.kept hk
  clear hk
  refine q0 (.pointer r1) ?_
  refine wpL_nil ?_
  refine th_n ?_
  refine wpE_seq ?_
  refine wpE_seq ?_
  refine rg ?_
  refine q0 (.pointer r1) ?_
  refine q2 (.bool (Option.isNone r1)) (x_ptreq (by kernel_rfl) rfl Try.underlying25) ?_
  refine wpL_nil ?_
  refine th_n ?_
  refine wpE_cond (t := (Option.isNone r1)) (by kernel_rfl) (fun hc1 => ?_) (fun hc1 => ?_)
  · replace h := h.1 hc1
    refine wpE_seq ?_
    refine rg ?_
    refine q0 (.bool false) ?_
    refine wpL_nil ?_
    refine th_n ?_
    refine wpE_ret ?_
    refine th_r ?_
    refine res1 (.inl rfl) Try.results16 (v := (.bool false)) (by kernel_rfl) ?_
    exact ⟨false, rfl, h⟩
  · replace h := h.2 hc1
    refine wpE_skip ?_
    refine th_n ?_
    refine wpE_seq ?_
    refine rg ?_
    refine q0 (.pointer r1) ?_
    refine q0 (.agg #[(.int .i64 2), (.int .i64 1), (.int .u64 7), (.string (⟨#[116]⟩ : ByteArray)), (.bool false)]) ?_
    refine st_call (want0 rfl) (x_callE (args := #[(.agg #[(.int .i64 2), (.int .i64 1), (.int .u64 7), (.string (⟨#[116]⟩ : ByteArray)), (.bool false)]), (.bool false), (.bool false)]) Try.call74 (by kernel_rfl)) (h.mono ?_)
    clear h
    rintro e w2 ⟨rKind1, rFrom1, rTo1, rNum1, rText1, rKids1, rfl, hk, h⟩
    refine ⟨_, rfl, ?_⟩
    replace hs := hs.again hk
    replace hb := hb.kept hk
    clear hk
    refine st_call (want0 rfl) (x_callE (args := #[(.pointer r1), (.agg #[(.int .i64 rKind1), (.int .i64 rFrom1), (.int .i64 rTo1), (.int .u64 rNum1), (.string rText1), rKids1.v])]) Try.call73 (by kernel_rfl)) (h.mono ?_)
    clear h
    rintro e w3 ⟨r2, r3, rfl, hk, h⟩
    refine ⟨_, rfl, ?_⟩
    replace hs := hs.again hk
    replace hb := hb.kept hk
    clear hk
    refine q0 (.tuple #[(.int .i64 r2), (.int .i64 r3)]) ?_
    refine q0 (.int .i64 r2) ?_
    refine q0 (.int .i64 r3) ?_
    refine q0 (.int .i64 r2) ?_
    refine q0 (.int .i64 r3) ?_
    refine wpL_nil ?_
    refine th_n ?_
    refine wpE_seq ?_
    refine rg ?_
    refine q0 (.pointer r1) ?_
    refine q0 (.agg #[(.int .i64 1), (.int .i64 1), (.int .u64 7), (.string (⟨#[116]⟩ : ByteArray)), (.bool false)]) ?_
    refine st_call (want0 rfl) (x_callE (args := #[(.agg #[(.int .i64 1), (.int .i64 1), (.int .u64 7), (.string (⟨#[116]⟩ : ByteArray)), (.bool false)]), (.bool false), (.bool false)]) Try.call74 (by kernel_rfl)) (h.mono ?_)
    clear h
    rintro e w4 ⟨rKind2, rFrom2, rTo2, rNum2, rText2, rKids2, rfl, hk, h⟩
    refine ⟨_, rfl, ?_⟩
    replace hs := hs.again hk
    replace hb := hb.kept hk
    clear hk
    refine st_call (want0 rfl) (x_callE (args := #[(.pointer r1), (.agg #[(.int .i64 rKind2), (.int .i64 rFrom2), (.int .i64 rTo2), (.int .u64 rNum2), (.string rText2), rKids2.v])]) Try.call73 (by kernel_rfl)) (h.mono ?_)
    clear h
    rintro e w5 ⟨r4, r5, rfl, hk, h⟩
    refine ⟨_, rfl, ?_⟩
    replace hs := hs.again hk
    replace hb := hb.kept hk
    clear hk
    refine q0 (.tuple #[(.int .i64 r4), (.int .i64 r5)]) ?_
    refine q0 (.int .i64 r4) ?_
    refine q0 (.int .i64 r5) ?_
    refine q0 (.int .i64 r4) ?_
    refine q0 (.int .i64 r5) ?_
    refine wpL_nil ?_
    refine th_n ?_
    refine wpE_seq ?_
    refine rg ?_
    refine q0 (.pointer r1) ?_
    refine q0 (.agg #[(.int .i64 2), (.int .i64 1), (.int .u64 7), (.string (⟨#[117]⟩ : ByteArray)), (.bool false)]) ?_
    refine st_call (want0 rfl) (x_callE (args := #[(.agg #[(.int .i64 2), (.int .i64 1), (.int .u64 7), (.string (⟨#[117]⟩ : ByteArray)), (.bool false)]), (.bool false), (.bool false)]) Try.call74 (by kernel_rfl)) (h.mono ?_)
    clear h
    rintro e w6 ⟨rKind3, rFrom3, rTo3, rNum3, rText3, rKids3, rfl, hk, h⟩
    refine ⟨_, rfl, ?_⟩
    replace hs := hs.again hk
    replace hb := hb.kept hk
    clear hk
    refine st_call (want0 rfl) (x_callE (args := #[(.pointer r1), (.agg #[(.int .i64 rKind3), (.int .i64 rFrom3), (.int .i64 rTo3), (.int .u64 rNum3), (.string rText3), rKids3.v])]) Try.call73 (by kernel_rfl)) (h.mono ?_)
    clear h
    rintro e w7 ⟨r6, r7, rfl, hk, h⟩
    refine ⟨_, rfl, ?_⟩
    replace hs := hs.again hk
    replace hb := hb.kept hk
    clear hk
    refine q0 (.tuple #[(.int .i64 r6), (.int .i64 r7)]) ?_
    refine q0 (.int .i64 r6) ?_
    refine q0 (.int .i64 r7) ?_
    refine q0 (.int .i64 r6) ?_
    refine q0 (.int .i64 r7) ?_
    refine wpL_nil ?_
    refine th_n ?_
    refine wpE_seq ?_
    refine wpE_seq ?_
    refine wpE_via (fun ρ wJ => ∃ b2'0 : Bool, ∃ HJ : Nat → Prop, ((((r3 : Int) != 0) || ((r5 : Int) != 0)) = b2'0) ∧ Hst w0 None w7 HJ wJ ∧ HB HJ wJ [] ∧ Has ρ [(1, (.pointer r1)), (2, (.int .i64 r2)), (4, (.int .i64 r4)), (6, (.int .i64 r6)), (44, (.bool (b2'0 || ((r7 : Int) != 0))))]) ?_ ?_
    · skip
      refine rg ?_
      refine q0 (.int .i64 r3) ?_
      refine q0 (.bool ((r3 : Int) != 0)) ?_
      refine q0 (.bool ((r3 : Int) != 0)) ?_
      refine wpL_join 3 (fun ρ wJ => ∃ b3'0 : Bool, ∃ HJ : Nat → Prop, (((r3 : Int) != 0) = b3'0) ∧ Hst w0 None w7 HJ wJ ∧ HB HJ wJ [] ∧ Has ρ [(1, (.pointer r1)), (2, (.int .i64 r2)), (4, (.int .i64 r4)), (6, (.int .i64 r6)), (7, (.int .i64 r7)), (40, (.bool (b3'0 || ((r5 : Int) != 0))))]) ?_ ?_
      · clear hs hb
        rintro ρ w10 ⟨b3'0, H3, he0, hs, hb, hH⟩
        subst he0
        refine wpL_has hH ?_
        clear hH
        refine q0 (.bool (((r3 : Int) != 0) || ((r5 : Int) != 0))) ?_
        rcases Bool.eq_false_or_eq_true (((r3 : Int) != 0) || ((r5 : Int) != 0)) with hg6 | hg6
        · skip
          refine st_not (unwant rfl (yD 41 hg6) rfl) ?_
          refine st_not (unwant rfl (yD 41 hg6) rfl) ?_
          refine q2 (.bool true) (x_pickT (b := (((r3 : Int) != 0) || ((r5 : Int) != 0))) (by kernel_rfl) hg6 (by kernel_rfl)) ?_
          refine wpL_nil ?_
          refine th_n ?_
          exact ⟨true, _, hg6, hs, hb, Has.mk (by kernel_rfl)⟩
        · skip
          refine q1 (.int .i64 r7) (want1 rfl (yD 41 hg6)) ?_
          refine q1 (.bool ((r7 : Int) != 0)) (want1 rfl (yD 41 hg6)) ?_
          refine q2 (.bool ((r7 : Int) != 0)) (x_pickF (b := (((r3 : Int) != 0) || ((r5 : Int) != 0))) (by kernel_rfl) hg6 (by kernel_rfl)) ?_
          refine wpL_nil ?_
          refine th_n ?_
          exact ⟨false, _, hg6, hs, hb, Has.mk (by kernel_rfl)⟩
      · skip
        rcases Bool.eq_false_or_eq_true ((r3 : Int) != 0) with hg5 | hg5
        · skip
          refine st_not (unwant rfl (yD 37 hg5) rfl) ?_
          refine st_not (unwant rfl (yD 37 hg5) rfl) ?_
          refine q2 (.bool true) (x_pickT (b := ((r3 : Int) != 0)) (by kernel_rfl) hg5 (by kernel_rfl)) ?_
          refine wpL_nil ?_
          exact ⟨true, _, hg5, hs, hb, Has.mk (by kernel_rfl)⟩
        · skip
          refine q1 (.int .i64 r5) (want1 rfl (yD 37 hg5)) ?_
          refine q1 (.bool ((r5 : Int) != 0)) (want1 rfl (yD 37 hg5)) ?_
          refine q2 (.bool ((r5 : Int) != 0)) (x_pickF (b := ((r3 : Int) != 0)) (by kernel_rfl) hg5 (by kernel_rfl)) ?_
          refine wpL_nil ?_
          exact ⟨false, _, hg5, hs, hb, Has.mk (by kernel_rfl)⟩
    · clear hs hb
      rintro ρ w9 ⟨b2'0, H2, he0, hs, hb, hH⟩
      subst he0
      refine norm_has hH ?_
      clear hH
      refine th_n ?_
      refine wpE_cond (t := ((((r3 : Int) != 0) || ((r5 : Int) != 0)) || ((r7 : Int) != 0))) (by kernel_rfl) (fun hc2 => ?_) (fun hc2 => ?_)
      · replace h := h.1 hc2
        refine wpE_seq ?_
        refine rg ?_
        refine q0 (.bool false) ?_
        refine wpL_nil ?_
        refine th_n ?_
        refine wpE_ret ?_
        refine th_r ?_
        replace h := h H2 w9 hs
        replace hs := hs.here
        refine res1 (.inl rfl) Try.results16 (v := (.bool false)) (by kernel_rfl) ?_
        exact ⟨false, rfl, h⟩
      · replace h := h.2 hc2
        refine wpE_skip ?_
        refine th_n ?_
        refine wpE_seq ?_
        refine rg ?_
        refine q0 (.pointer r1) ?_
        refine q0 (.int .i64 r4) ?_
        refine q0 (.int .i64 r2) ?_
        replace h := h H2 w9 hs
        replace hs := hs.here
        refine st_new (O := (.cells #[(.int .i64 r4), (.int .i64 r2)] 41)) (fun p => (Sl.mk (some p) 2 2).v) (want0 rfl) (x_buildSlice (vs := #[(0, (.int .i64 r4)), (1, (.int .i64 r2))]) (by kernel_rfl) (by kernel_rfl)) ?_
        intro p1 w11 hn7
        replace h := h p1 w11 hn7
        replace hs := hs.again (Ext.new (F := None) hn7).keptP
        replace hb := hb.kept (Ext.new (F := None) hn7).keptP
        refine q0 (.agg #[(.int .i64 1), (.int .u64 7), (.string (⟨#[116]⟩ : ByteArray))]) ?_
        refine st_call (want0 rfl) (x_callE (args := #[(.pointer r1), (Sl.mk (some p1) 2 2).v, (.agg #[(.int .i64 1), (.int .u64 7), (.string (⟨#[116]⟩ : ByteArray))])]) Try.call24 (by kernel_rfl)) (h.mono ?_)
        clear h
        rintro e w12 ⟨rBound1, rWhy1, rBy1, rfl, hk, h⟩
        refine ⟨_, rfl, ?_⟩
        replace hs := hs.again hk
        replace hb := hb.kept hk
        clear hk
        refine st_new (O := (.cells #[(.bool false), (.int .i64 0), (.int .i64 0)] 43)) (fun p => .pointer (some p)) (want0 rfl) (x_alloc (Try.zeroValue43 _) rfl) ?_
        intro p2 w13 hn1
        have hsb := hs.alloc hb hn1
        clear hs hb hn1
        obtain ⟨H4, hs, hb⟩ := hsb
        refine st_set (want0 rfl) (x_storeA (a := p2) (vs := [(.bool rBound1), (.int .i64 rWhy1), (.int .i64 rBy1)]) (by kernel_rfl) (by kernel_rfl) rfl (Try.sizeOf43 _) rfl (hb.canWs0 0 3 (gZ) (by kernel_rfl))) ?_
        intro w14 hn2
        have hsb : Hst w0 H2 w12 H4 w14 ∧ HB H4 w14 [(p2, [(.bool rBound1), (.int .i64 rWhy1), (.int .i64 rBy1)], 43)] := by
          rw [hn2]
          exact hb.store0 (i := 0) (vs := [(.bool rBound1), (.int .i64 rWhy1), (.int .i64 rBy1)]) hs (gZ) (by kernel_rfl) (by kernel_rfl)
        clear hs hb hn2
        obtain ⟨hs, hb⟩ := hsb
        refine wpL_nil ?_
        refine th_n ?_
        refine wpE_seq ?_
        refine rg ?_
        refine q0 (.pointer r1) ?_
        refine q0 (.int .i64 r4) ?_
        replace h := h H4 w14 hs
        replace hs := hs.here
        refine st_new (O := (.cells #[(.int .i64 r4)] 41)) (fun p => (Sl.mk (some p) 1 1).v) (want0 rfl) (x_buildSlice (vs := #[(0, (.int .i64 r4))]) (by kernel_rfl) (by kernel_rfl)) ?_
        intro p3 w15 hn6
        replace h := h p3 w15 hn6
        replace hs := hs.again (Ext.new (F := None) hn6).keptP
        replace hb := hb.kept (Ext.new (F := None) hn6).keptP
        refine q0 (.agg #[(.int .i64 1), (.int .u64 7), (.string (⟨#[116]⟩ : ByteArray))]) ?_
        refine st_call (want0 rfl) (x_callE (args := #[(.pointer r1), (Sl.mk (some p3) 1 1).v, (.agg #[(.int .i64 1), (.int .u64 7), (.string (⟨#[116]⟩ : ByteArray))])]) Try.call24 (by kernel_rfl)) (h.mono ?_)
        clear h
        rintro e w16 ⟨rBound2, rWhy2, rBy2, rfl, hk, h⟩
        refine ⟨_, rfl, ?_⟩
        replace hs := hs.again hk
        replace hb := hb.kept hk
        clear hk
        refine st_new (O := (.cells #[(.bool false), (.int .i64 0), (.int .i64 0)] 43)) (fun p => .pointer (some p)) (want0 rfl) (x_alloc (Try.zeroValue43 _) rfl) ?_
        intro p4 w17 hn3
        have hsb := hs.alloc hb hn3
        clear hs hb hn3
        obtain ⟨H5, hs, hb⟩ := hsb
        refine st_set (want0 rfl) (x_storeA (a := p4) (vs := [(.bool rBound2), (.int .i64 rWhy2), (.int .i64 rBy2)]) (by kernel_rfl) (by kernel_rfl) rfl (Try.sizeOf43 _) rfl (hb.canWs0 0 3 (gZ) (by kernel_rfl))) ?_
        intro w18 hn4
        have hsb : Hst w0 H4 w16 H5 w18 ∧ HB H5 w18 [(p4, [(.bool rBound2), (.int .i64 rWhy2), (.int .i64 rBy2)], 43), (p2, [(.bool rBound1), (.int .i64 rWhy1), (.int .i64 rBy1)], 43)] := by
          rw [hn4]
          exact hb.store0 (i := 0) (vs := [(.bool rBound2), (.int .i64 rWhy2), (.int .i64 rBy2)]) hs (gZ) (by kernel_rfl) (by kernel_rfl)
        clear hs hb hn4
        obtain ⟨hs, hb⟩ := hsb
        refine wpL_nil ?_
        refine th_n ?_
        refine wpE_seq ?_
        refine rg ?_
        refine q0 (.pointer r1) ?_
        refine q0 (.int .i64 r2) ?_
        refine q0 (.int .i64 r4) ?_
        refine q0 (.int .i64 r6) ?_
        replace h := h H5 w18 hs
        replace hs := hs.here
        refine st_new (O := (.cells #[(.int .i64 r2), (.int .i64 r4), (.int .i64 r6)] 41)) (fun p => (Sl.mk (some p) 3 3).v) (want0 rfl) (x_buildSlice (vs := #[(0, (.int .i64 r2)), (1, (.int .i64 r4)), (2, (.int .i64 r6))]) (by kernel_rfl) (by kernel_rfl)) ?_
        intro p5 w19 hn5
        replace h := h p5 w19 hn5
        replace hs := hs.again (Ext.new (F := None) hn5).keptP
        replace hb := hb.kept (Ext.new (F := None) hn5).keptP
        refine st_call (want0 rfl) (x_callE (args := #[(.pointer r1), (Sl.mk (some p5) 3 3).v]) Try.call22 (by kernel_rfl)) (h.mono ?_)
        clear h
        rintro e w20 ⟨r8, rfl, hk, h⟩
        refine ⟨_, rfl, ?_⟩
        replace hs := hs.again hk
        replace hb := hb.kept hk
        clear hk
        refine q0 r8.v ?_
        refine wpL_nil ?_
        refine th_n ?_
        refine wpE_seq ?_
        refine rg ?_
        refine q2 (.agg #[(.bool rBound1), (.int .i64 rWhy1), (.int .i64 rBy1)]) (x_loadA (a := p2) (vs := [(.bool rBound1), (.int .i64 rWhy1), (.int .i64 rBy1)]) (by kernel_rfl) (Try.isAgg43 _) (Try.sizeOf43 _) rfl (hb.row0 1 3 (gS (gZ)) (by kernel_rfl))) ?_
        refine q0 (.agg #[(.bool true), (.int .i64 1), (.int .i64 1)]) ?_
        refine q2 (.bool ((rBound1 == true) && (((rWhy1 : Int) == 1) && ((rBy1 : Int) == 1)))) (x_aggeq (by kernel_rfl) (by kernel_rfl) (by kernel_rfl) (eqt_law13_live_eql_43 rBound1 rWhy1 rBy1 true 1 1 _)) ?_
        refine q0 (.bool ((rBound1 == true) && (((rWhy1 : Int) == 1) && ((rBy1 : Int) == 1)))) ?_
        refine wpL_join 4 (fun ρ wJ => ∃ b4'0 : Bool, ∃ y1 : Bool, ∃ HJ : Nat → Prop, (((rBound1 == true) && (((rWhy1 : Int) == 1) && ((rBy1 : Int) == 1))) = b4'0) ∧ (y1 = (b4'0 && ((rBound2 == false) && (((rWhy2 : Int) == 0) && ((rBy2 : Int) == (-1)))))) ∧ Hst w0 H5 w20 HJ wJ ∧ HB HJ wJ [(p4, [(.bool rBound2), (.int .i64 rWhy2), (.int .i64 rBy2)], 43), (p2, [(.bool rBound1), (.int .i64 rWhy1), (.int .i64 rBy1)], 43)] ∧ Has ρ [(10, r8.v), (69, (.bool y1))]) ?_ ?_
        · clear hs hb
          rintro ρ w21 ⟨b4'0, y1, H6, he0, hy1, hs, hb, hH⟩
          subst he0
          replace h := h y1 hy1
          refine wpL_has hH ?_
          clear hH
          refine q0 (.bool y1) ?_
          refine wpL_join 4 (fun ρ wJ => ∃ b5'0 : Bool, ∃ HJ : Nat → Prop, (y1 = b5'0) ∧ Hst w0 H5 w20 HJ wJ ∧ HB HJ wJ [(p4, [(.bool rBound2), (.int .i64 rWhy2), (.int .i64 rBy2)], 43), (p2, [(.bool rBound1), (.int .i64 rWhy1), (.int .i64 rBy1)], 43)] ∧ Has ρ [(10, r8.v), (74, (.bool (b5'0 && (((r8.len : Int) : Int) == 1))))]) ?_ ?_
          · clear hs hb
            rintro ρ w22 ⟨b5'0, H7, he0, hs, hb, hH⟩
            subst he0
            refine wpL_has hH ?_
            clear hH
            refine q0 (.bool (y1 && (((r8.len : Int) : Int) == 1))) ?_
            rcases Bool.eq_false_or_eq_true (y1 && (((r8.len : Int) : Int) == 1)) with hg11 | hg11
            · replace h := h.1 hg11
              refine q1 r8.v (want1 rfl (yD 75 hg11)) ?_
              obtain ⟨a1, hv2, h⟩ := h
              refine stp (v := (.pointer (some a1))) (want1 rfl (yD 75 hg11)) (x_indexAddr (s := r8) (k := .i64) (i := 0) (by kernel_rfl) (by kernel_rfl) (Try.runUnderlying35 _) (Try.sizeOf134 _) hv2) ?_
              replace h := h H7 w22 hs
              replace hs := hs.here
              obtain ⟨vWho1, vC1, vKind1, vA1, vB1, hv1, h⟩ := h
              refine stp (v := (.agg #[(.int .i64 vWho1), (.int .u64 vC1), (.int .i64 vKind1), (.int .i64 vA1), (.int .i64 vB1)])) (want1 rfl (yD 75 hg11)) (x_loadA (a := a1) (vs := [(.int .i64 vWho1), (.int .u64 vC1), (.int .i64 vKind1), (.int .i64 vA1), (.int .i64 vB1)]) (by kernel_rfl) (Try.isAgg134 _) (Try.sizeOf134 _) rfl hv1) ?_
              refine q1 (.agg #[(.int .i64 1), (.int .u64 7), (.int .i64 1), (.int .i64 0), (.int .i64 2)]) (want1 rfl (yD 75 hg11)) ?_
              refine stp (v := (.bool (((vWho1 : Int) == 1) && (((vC1 : Int) == 7) && (((vKind1 : Int) == 1) && (((vA1 : Int) == 0) && ((vB1 : Int) == 2))))))) (want1 rfl (yD 75 hg11)) (x_aggeq (by kernel_rfl) (by kernel_rfl) (by kernel_rfl) (eqt_law13_live_eql_134 vWho1 vC1 vKind1 vA1 vB1 1 7 1 0 2 _)) ?_
              refine q2 (.bool (((vWho1 : Int) == 1) && (((vC1 : Int) == 7) && (((vKind1 : Int) == 1) && (((vA1 : Int) == 0) && ((vB1 : Int) == 2)))))) (x_pickT (b := (y1 && (((r8.len : Int) : Int) == 1))) (by kernel_rfl) hg11 (by kernel_rfl)) ?_
              refine q0 (.bool (((vWho1 : Int) == 1) && (((vC1 : Int) == 7) && (((vKind1 : Int) == 1) && (((vA1 : Int) == 0) && ((vB1 : Int) == 2)))))) ?_
              refine wpL_nil ?_
              refine th_n ?_
              refine wpE_ret ?_
              refine res1 (.inl rfl) Try.results16 (v := (.bool (((vWho1 : Int) == 1) && (((vC1 : Int) == 7) && (((vKind1 : Int) == 1) && (((vA1 : Int) == 0) && ((vB1 : Int) == 2))))))) (by kernel_rfl) ?_
              exact ⟨(((vWho1 : Int) == 1) && (((vC1 : Int) == 7) && (((vKind1 : Int) == 1) && (((vA1 : Int) == 0) && ((vB1 : Int) == 2))))), rfl, h⟩
            · replace h := h.2 hg11
              refine st_not (unwant rfl (yD 75 hg11) rfl) ?_
              refine st_not (unwant rfl (yD 75 hg11) rfl) ?_
              refine st_not (unwant rfl (yD 75 hg11) rfl) ?_
              refine st_not (unwant rfl (yD 75 hg11) rfl) ?_
              refine st_not (unwant rfl (yD 75 hg11) rfl) ?_
              refine q2 (.bool false) (x_pickF (b := (y1 && (((r8.len : Int) : Int) == 1))) (by kernel_rfl) hg11 (by kernel_rfl)) ?_
              refine q0 (.bool false) ?_
              refine wpL_nil ?_
              refine th_n ?_
              refine wpE_ret ?_
              replace h := h H7 w22 hs
              replace hs := hs.here
              refine res1 (.inl rfl) Try.results16 (v := (.bool false)) (by kernel_rfl) ?_
              exact ⟨false, rfl, h⟩
          · skip
            rcases Bool.eq_false_or_eq_true y1 with hg10 | hg10
            · skip
              refine q1 r8.v (want1 rfl (yD 70 hg10)) ?_
              refine q1 (.int .i64 (r8.len : Int)) (want1 rfl (yD 70 hg10)) ?_
              refine q1 (.bool (((r8.len : Int) : Int) == 1)) (want1 rfl (yD 70 hg10)) ?_
              refine q2 (.bool (((r8.len : Int) : Int) == 1)) (x_pickT (b := y1) (by kernel_rfl) hg10 (by kernel_rfl)) ?_
              refine wpL_nil ?_
              exact ⟨true, _, hg10, hs, hb, Has.mk (by kernel_rfl)⟩
            · skip
              refine st_not (unwant rfl (yD 70 hg10) rfl) ?_
              refine st_not (unwant rfl (yD 70 hg10) rfl) ?_
              refine st_not (unwant rfl (yD 70 hg10) rfl) ?_
              refine q2 (.bool false) (x_pickF (b := y1) (by kernel_rfl) hg10 (by kernel_rfl)) ?_
              refine wpL_nil ?_
              exact ⟨false, _, hg10, hs, hb, Has.mk (by kernel_rfl)⟩
        · skip
          rcases Bool.eq_false_or_eq_true ((rBound1 == true) && (((rWhy1 : Int) == 1) && ((rBy1 : Int) == 1))) with hg8 | hg8
          · skip
            refine stp (v := (.agg #[(.bool rBound2), (.int .i64 rWhy2), (.int .i64 rBy2)])) (want1 rfl (yD 65 hg8)) (x_loadA (a := p4) (vs := [(.bool rBound2), (.int .i64 rWhy2), (.int .i64 rBy2)]) (by kernel_rfl) (Try.isAgg43 _) (Try.sizeOf43 _) rfl (hb.row0 0 3 (gZ) (by kernel_rfl))) ?_
            refine q1 (.agg #[(.bool false), (.int .i64 0), (.int .i64 (-1))]) (want1 rfl (yD 65 hg8)) ?_
            refine stp (v := (.bool ((rBound2 == false) && (((rWhy2 : Int) == 0) && ((rBy2 : Int) == (-1)))))) (want1 rfl (yD 65 hg8)) (x_aggeq (by kernel_rfl) (by kernel_rfl) (by kernel_rfl) (eqt_law13_live_eql_43 rBound2 rWhy2 rBy2 false 0 (-1) _)) ?_
            refine q2 (.bool ((rBound2 == false) && (((rWhy2 : Int) == 0) && ((rBy2 : Int) == (-1))))) (x_pickT (b := ((rBound1 == true) && (((rWhy1 : Int) == 1) && ((rBy1 : Int) == 1)))) (by kernel_rfl) hg8 (by kernel_rfl)) ?_
            refine wpL_nil ?_
            exact ⟨true, _, _, hg8, rfl, hs, hb, Has.mk (by kernel_rfl)⟩
          · skip
            refine st_not (unwant rfl (yD 65 hg8) rfl) ?_
            refine st_not (unwant rfl (yD 65 hg8) rfl) ?_
            refine st_not (unwant rfl (yD 65 hg8) rfl) ?_
            refine q2 (.bool false) (x_pickF (b := ((rBound1 == true) && (((rWhy1 : Int) == 1) && ((rBy1 : Int) == 1)))) (by kernel_rfl) hg8 (by kernel_rfl)) ?_
            refine wpL_nil ?_
            exact ⟨false, _, _, hg8, rfl, hs, hb, Has.mk (by kernel_rfl)⟩

theorem eqt_law13_ArbiterNil_eql_43 (a0 : Bool) (a1 : Int) (a2 : Int) (b0 : Bool) (b1 : Int) (b2 : Int) (w : World) : (Go.binOp .eql 43 (.agg #[(.bool a0), (.int .i64 a1), (.int .i64 a2)]) (.agg #[(.bool b0), (.int .i64 b1), (.int .i64 b2)])).run Try.prog w = .ok (.bool ((a0 == b0) && (((a1 : Int) == b1) && ((a2 : Int) == b2)))) w := by
  simp [Go.binOp, Op.equal, Op.maxDepth, go_sem, streq, bne]
  repeat' split
  all_goals simp_all

def m_law13_ArbiterNil_j5 (x5 : Bool) (H : Nat → Prop) (w : World) (K : Bool → World → Prop) : Prop :=
  Br x5
    (Calls Try.prog 16 #[] w (fun e w4 => ∃ r1 : Bool, e = .returned (.bool r1) ∧ 
      Kept H w w4 ∧
      K r1 w4))
    (K false w)
def m_law13_ArbiterNil_j4 (cC1 : Int) (cText1 : ByteArray) (p2 : Addr) (x4 : Bool) (H : Nat → Prop) (w : World) (K : Bool → World → Prop) : Prop :=
  Br x4
    (Calls Try.prog 28 #[(.pointer none), (Sl.mk (some p2) 3 3).v, (.int .u64 cC1), (.string cText1)] w (fun e w5 => ∃ r2 : Bool, e = .returned (.bool r2) ∧ 
      Kept H w w5 ∧
      m_law13_ArbiterNil_j5 r2 H w5 K))
    (m_law13_ArbiterNil_j5 false H w K)
def m_law13_ArbiterNil_j3 (cWho1 : Int) (cC1 : Int) (cText1 : ByteArray) (p2 : Addr) (x3 : Bool) (H : Nat → Prop) (w : World) (K : Bool → World → Prop) : Prop :=
  Br x3
    (Calls Try.prog 31 #[(.pointer none), (Sl.mk (some p2) 3 3).v, (.int .i64 cWho1), (.int .u64 cC1)] w (fun e w6 => ∃ r3 : Sl, e = .returned r3.v ∧ 
      Kept H w w6 ∧
      m_law13_ArbiterNil_j4 cC1 cText1 p2 (((r3.len : Int) : Int) == 0) H w6 K))
    (m_law13_ArbiterNil_j4 cC1 cText1 p2 false H w K)
def m_law13_ArbiterNil_j2 (cWho1 : Int) (cC1 : Int) (cText1 : ByteArray) (p2 : Addr) (x2 : Bool) (H : Nat → Prop) (w : World) (K : Bool → World → Prop) : Prop :=
  Br x2
    (Calls Try.prog 26 #[(.pointer none), (Sl.mk (some p2) 3 3).v, (.int .u64 cC1)] w (fun e w7 => ∃ r4 : Bool, e = .returned (.bool r4) ∧ 
      Kept H w w7 ∧
      m_law13_ArbiterNil_j3 cWho1 cC1 cText1 p2 (!r4) H w7 K))
    (m_law13_ArbiterNil_j3 cWho1 cC1 cText1 p2 false H w K)
def m_law13_ArbiterNil_j1 (cWho1 : Int) (cC1 : Int) (cText1 : ByteArray) (p2 : Addr) (x1 : Bool) (H : Nat → Prop) (w : World) (K : Bool → World → Prop) : Prop :=
  Br x1
    (Calls Try.prog 22 #[(.pointer none), (Sl.mk (some p2) 3 3).v] w (fun e w8 => ∃ r5 : Sl, e = .returned r5.v ∧ 
      Kept H w w8 ∧
      m_law13_ArbiterNil_j2 cWho1 cC1 cText1 p2 (((r5.len : Int) : Int) == 0) H w8 K))
    (m_law13_ArbiterNil_j2 cWho1 cC1 cText1 p2 false H w K)
def m_law13_ArbiterNil (cWho1 : Int) (cC1 : Int) (cText1 : ByteArray) (t1 : Int) (w0 : World) (K : Bool → World → Prop) : Prop :=
  ∀ (H1 : Nat → Prop) (w1 : World), Hst w0 None w0 H1 w1 →
  ∀ (p2 : Addr) (w2 : World), New w1 (.cells #[(.int .i64 t1), (.int .i64 0), (.int .i64 (-1))] 41) p2 w2 →
  Calls Try.prog 24 #[(.pointer none), (Sl.mk (some p2) 3 3).v, (.agg #[(.int .i64 cWho1), (.int .u64 cC1), (.string cText1)])] w2 (fun e w3 => ∃ rBound1 : Bool, ∃ rWhy1 : Int, ∃ rBy1 : Int, e = .returned (.agg #[(.bool rBound1), (.int .i64 rWhy1), (.int .i64 rBy1)]) ∧ 
    Kept H1 w2 w3 ∧
    Br ((rBound1 == false) && (((rWhy1 : Int) == 0) && ((rBy1 : Int) == (-1))))
      (Calls Try.prog 19 #[(.pointer none), (Sl.mk (some p2) 3 3).v] w3 (fun e w9 => ∃ r6 : Sl, e = .returned r6.v ∧ 
        Kept H1 w3 w9 ∧
        m_law13_ArbiterNil_j1 cWho1 cC1 cText1 p2 (((r6.len : Int) : Int) == 0) H1 w9 K))
      (m_law13_ArbiterNil_j1 cWho1 cC1 cText1 p2 false H1 w3 K))
set_option maxRecDepth 100000 in
set_option maxHeartbeats 4000000 in
theorem w_law13_ArbiterNil (cWho1 : Int) (cC1 : Int) (cText1 : ByteArray) (t1 : Int) (w0 : World) (K : Bool → World → Prop) (h : m_law13_ArbiterNil cWho1 cC1 cText1 t1 w0 K) :
    Calls Try.prog 6 #[(.agg #[(.int .i64 cWho1), (.int .u64 cC1), (.string cText1)]), (.int .i64 t1)] w0 (fun e w' => ∃ r7 : Bool, e = .returned (.bool r7) ∧ K r7 w') := by
  unfold m_law13_ArbiterNil at h
  refine calls_of_wpE (args := [(.agg #[(.int .i64 cWho1), (.int .u64 cC1), (.string cText1)]), (.int .i64 t1)]) Try.func6 rfl Try.ntmps6 (Nat.le_of_ble_eq_true rfl) ?_
  have hs := Hst.start w0
  have hb := HB.nil None w0
  refine wpE_seq ?_
  refine rg ?_
  refine st_new (O := (.cells #[(.int .i64 cWho1), (.int .u64 cC1), (.string cText1)] 40)) (fun p => .pointer (some p)) (want0 rfl) (x_box (cs := #[(.int .i64 cWho1), (.int .u64 cC1), (.string cText1)]) (by kernel_rfl)) ?_
  intro p1 w1 hn1
  have hsb := hs.alloc hb hn1
  clear hs hb hn1
  obtain ⟨H1, hs, hb⟩ := hsb
  refine q0 (.bool false) ?_
  refine wpL_nil ?_
  refine th_n ?_
  refine wpE_seq ?_
  refine rg ?_
  refine q0 (.int .i64 t1) ?_
  replace h := h H1 w1 hs
  replace hs := hs.here
  refine st_new (O := (.cells #[(.int .i64 t1), (.int .i64 0), (.int .i64 (-1))] 41)) (fun p => (Sl.mk (some p) 3 3).v) (want0 rfl) (x_buildSlice (vs := #[(0, (.int .i64 t1)), (1, (.int .i64 0)), (2, (.int .i64 (-1)))]) (by kernel_rfl) (by kernel_rfl)) ?_
  intro p2 w2 hn2
  replace h := h p2 w2 hn2
  replace hs := hs.again (Ext.new (F := None) hn2).keptP
  replace hb := hb.kept (Ext.new (F := None) hn2).keptP
  refine q0 ((Sl.mk (some p2) 3 3).v) ?_
  refine wpL_nil ?_
  refine th_n ?_
  refine wpE_seq ?_
  refine rg ?_
  refine q0 ((Sl.mk (some p2) 3 3).v) ?_
  refine q2 (.agg #[(.int .i64 cWho1), (.int .u64 cC1), (.string cText1)]) (x_loadA (a := p1) (vs := [(.int .i64 cWho1), (.int .u64 cC1), (.string cText1)]) (by kernel_rfl) (Try.isAgg40 _) (Try.sizeOf40 _) rfl (hb.row0 0 3 (gZ) (by kernel_rfl))) ?_
  refine st_call (want0 rfl) (x_callE (args := #[(.pointer none), (Sl.mk (some p2) 3 3).v, (.agg #[(.int .i64 cWho1), (.int .u64 cC1), (.string cText1)])]) Try.call24 (by kernel_rfl)) (h.mono ?_)
  clear h
  rintro e w3 ⟨rBound1, rWhy1, rBy1, rfl, hk, h⟩
  refine ⟨_, rfl, ?_⟩
  replace hs := hs.again hk
  replace hb := hb.kept hk
  clear hk
  refine q0 (.agg #[(.bool false), (.int .i64 0), (.int .i64 (-1))]) ?_
  refine q2 (.bool ((rBound1 == false) && (((rWhy1 : Int) == 0) && ((rBy1 : Int) == (-1))))) (x_aggeq (by kernel_rfl) (by kernel_rfl) (by kernel_rfl) (eqt_law13_ArbiterNil_eql_43 rBound1 rWhy1 rBy1 false 0 (-1) _)) ?_
  refine q0 (.bool ((rBound1 == false) && (((rWhy1 : Int) == 0) && ((rBy1 : Int) == (-1))))) ?_
  refine wpL_join 5 (fun ρ w => ∃ x1 : Bool, ∃ H : Nat → Prop, Has ρ [(2, (.pointer (some p1))), (5, (Sl.mk (some p2) 3 3).v), (18, (.bool x1))] ∧ Hst w0 H w H w ∧ HB H w [(p1, [(.int .i64 cWho1), (.int .u64 cC1), (.string cText1)], 40)] ∧ m_law13_ArbiterNil_j1 cWho1 cC1 cText1 p2 x1 H w K) ?_ ?_
  · clear h hs hb
    rintro ρ w ⟨x1, H, hH, hs, hb, h⟩
    unfold m_law13_ArbiterNil_j1 at h
    refine wpL_has hH ?_
    clear hH
    refine q0 (.bool x1) ?_
    refine wpL_join 5 (fun ρ w => ∃ x2 : Bool, ∃ H : Nat → Prop, Has ρ [(2, (.pointer (some p1))), (5, (Sl.mk (some p2) 3 3).v), (24, (.bool x2))] ∧ Hst w0 H w H w ∧ HB H w [(p1, [(.int .i64 cWho1), (.int .u64 cC1), (.string cText1)], 40)] ∧ m_law13_ArbiterNil_j2 cWho1 cC1 cText1 p2 x2 H w K) ?_ ?_
    · clear h hs hb
      rintro ρ w ⟨x2, H, hH, hs, hb, h⟩
      unfold m_law13_ArbiterNil_j2 at h
      refine wpL_has hH ?_
      clear hH
      refine q0 (.bool x2) ?_
      refine wpL_join 6 (fun ρ w => ∃ x3 : Bool, ∃ H : Nat → Prop, Has ρ [(2, (.pointer (some p1))), (5, (Sl.mk (some p2) 3 3).v), (31, (.bool x3))] ∧ Hst w0 H w H w ∧ HB H w [(p1, [(.int .i64 cWho1), (.int .u64 cC1), (.string cText1)], 40)] ∧ m_law13_ArbiterNil_j3 cWho1 cC1 cText1 p2 x3 H w K) ?_ ?_
      · clear h hs hb
        rintro ρ w ⟨x3, H, hH, hs, hb, h⟩
        unfold m_law13_ArbiterNil_j3 at h
        refine wpL_has hH ?_
        clear hH
        refine q0 (.bool x3) ?_
        refine wpL_join 9 (fun ρ w => ∃ x4 : Bool, ∃ H : Nat → Prop, Has ρ [(2, (.pointer (some p1))), (5, (Sl.mk (some p2) 3 3).v), (41, (.bool x4))] ∧ Hst w0 H w H w ∧ HB H w [(p1, [(.int .i64 cWho1), (.int .u64 cC1), (.string cText1)], 40)] ∧ m_law13_ArbiterNil_j4 cC1 cText1 p2 x4 H w K) ?_ ?_
        · clear h hs hb
          rintro ρ w ⟨x4, H, hH, hs, hb, h⟩
          unfold m_law13_ArbiterNil_j4 at h
          refine wpL_has hH ?_
          clear hH
          refine q0 (.bool x4) ?_
          refine wpL_join 7 (fun ρ w => ∃ x5 : Bool, ∃ H : Nat → Prop, Has ρ [(49, (.bool x5))] ∧ Hst w0 H w H w ∧ HB H w [(p1, [(.int .i64 cWho1), (.int .u64 cC1), (.string cText1)], 40)] ∧ m_law13_ArbiterNil_j5 x5 H w K) ?_ ?_
          · clear h hs hb
            rintro ρ w ⟨x5, H, hH, hs, hb, h⟩
            unfold m_law13_ArbiterNil_j5 at h
            refine wpL_has hH ?_
            clear hH
            refine q0 (.bool x5) ?_
            rcases Bool.eq_false_or_eq_true x5 with hg1 | hg1
            · replace h := h.1 hg1
              refine st_call (want1 rfl (yD 50 hg1)) (x_callE (args := #[]) Try.call16 (by kernel_rfl)) (h.mono ?_)
              clear h
              rintro e w4 ⟨r1, rfl, hk, h⟩
              refine ⟨_, rfl, ?_⟩
              replace hs := hs.again hk
              replace hb := hb.kept hk
              clear hk
              refine q2 (.bool r1) (x_pickT (b := x5) (by kernel_rfl) hg1 (by kernel_rfl)) ?_
              refine q0 (.bool r1) ?_
              refine wpL_nil ?_
              refine th_n ?_
              refine wpE_ret ?_
              refine res1 (.inl rfl) Try.results6 (v := (.bool r1)) (by kernel_rfl) ?_
              exact ⟨r1, rfl, h⟩
            · replace h := h.2 hg1
              refine st_not (unwant rfl (yD 50 hg1) rfl) ?_
              refine q2 (.bool false) (x_pickF (b := x5) (by kernel_rfl) hg1 (by kernel_rfl)) ?_
              refine q0 (.bool false) ?_
              refine wpL_nil ?_
              refine th_n ?_
              refine wpE_ret ?_
              refine res1 (.inl rfl) Try.results6 (v := (.bool false)) (by kernel_rfl) ?_
              exact ⟨false, rfl, h⟩
          · skip
            rcases Bool.eq_false_or_eq_true x4 with hg2 | hg2
            · replace h := h.1 hg2
              refine q1 ((Sl.mk (some p2) 3 3).v) (want1 rfl (yD 42 hg2)) ?_
              refine q1 (.pointer (some (p1.add 1))) (want1 rfl (yD 42 hg2)) ?_
              refine stp (v := (.int .u64 cC1)) (want1 rfl (yD 42 hg2)) (x_load (a := (p1.add 1)) (by kernel_rfl) (Try.isAgg38 _) (hb.cell 0 1 (gZ) (by kernel_rfl))) ?_
              refine q1 (.pointer (some (p1.add 2))) (want1 rfl (yD 42 hg2)) ?_
              refine stp (v := (.string cText1)) (want1 rfl (yD 42 hg2)) (x_load (a := (p1.add 2)) (by kernel_rfl) (Try.isAgg9 _) (hb.cell 0 2 (gZ) (by kernel_rfl))) ?_
              refine st_call (want1 rfl (yD 42 hg2)) (x_callE (args := #[(.pointer none), (Sl.mk (some p2) 3 3).v, (.int .u64 cC1), (.string cText1)]) Try.call28 (by kernel_rfl)) (h.mono ?_)
              clear h
              rintro e w5 ⟨r2, rfl, hk, h⟩
              refine ⟨_, rfl, ?_⟩
              replace hs := hs.again hk
              replace hb := hb.kept hk
              clear hk
              refine q2 (.bool r2) (x_pickT (b := x4) (by kernel_rfl) hg2 (by kernel_rfl)) ?_
              refine wpL_nil ?_
              exact ⟨r2, H, Has.mk (by kernel_rfl), hs, hb, h⟩
            · replace h := h.2 hg2
              refine st_not (unwant rfl (yD 42 hg2) rfl) ?_
              refine st_not (unwant rfl (yD 42 hg2) rfl) ?_
              refine st_not (unwant rfl (yD 42 hg2) rfl) ?_
              refine st_not (unwant rfl (yD 42 hg2) rfl) ?_
              refine st_not (unwant rfl (yD 42 hg2) rfl) ?_
              refine st_not (unwant rfl (yD 42 hg2) rfl) ?_
              refine q2 (.bool false) (x_pickF (b := x4) (by kernel_rfl) hg2 (by kernel_rfl)) ?_
              refine wpL_nil ?_
              exact ⟨false, H, Has.mk (by kernel_rfl), hs, hb, h⟩
        · skip
          rcases Bool.eq_false_or_eq_true x3 with hg3 | hg3
          · replace h := h.1 hg3
            refine q1 ((Sl.mk (some p2) 3 3).v) (want1 rfl (yD 32 hg3)) ?_
            refine q1 (.pointer (some p1)) (want1 rfl (yD 32 hg3)) ?_
            refine stp (v := (.int .i64 cWho1)) (want1 rfl (yD 32 hg3)) (x_load (a := p1) (by kernel_rfl) (Try.isAgg3 _) (hb.cell0 0 (gZ) (by kernel_rfl))) ?_
            refine q1 (.pointer (some (p1.add 1))) (want1 rfl (yD 32 hg3)) ?_
            refine stp (v := (.int .u64 cC1)) (want1 rfl (yD 32 hg3)) (x_load (a := (p1.add 1)) (by kernel_rfl) (Try.isAgg38 _) (hb.cell 0 1 (gZ) (by kernel_rfl))) ?_
            refine st_call (want1 rfl (yD 32 hg3)) (x_callE (args := #[(.pointer none), (Sl.mk (some p2) 3 3).v, (.int .i64 cWho1), (.int .u64 cC1)]) Try.call31 (by kernel_rfl)) (h.mono ?_)
            clear h
            rintro e w6 ⟨r3, rfl, hk, h⟩
            refine ⟨_, rfl, ?_⟩
            replace hs := hs.again hk
            replace hb := hb.kept hk
            clear hk
            refine q1 (.int .i64 (r3.len : Int)) (want1 rfl (yD 32 hg3)) ?_
            refine q1 (.bool (((r3.len : Int) : Int) == 0)) (want1 rfl (yD 32 hg3)) ?_
            refine q2 (.bool (((r3.len : Int) : Int) == 0)) (x_pickT (b := x3) (by kernel_rfl) hg3 (by kernel_rfl)) ?_
            refine wpL_nil ?_
            exact ⟨(((r3.len : Int) : Int) == 0), H, Has.mk (by kernel_rfl), hs, hb, h⟩
          · replace h := h.2 hg3
            refine st_not (unwant rfl (yD 32 hg3) rfl) ?_
            refine st_not (unwant rfl (yD 32 hg3) rfl) ?_
            refine st_not (unwant rfl (yD 32 hg3) rfl) ?_
            refine st_not (unwant rfl (yD 32 hg3) rfl) ?_
            refine st_not (unwant rfl (yD 32 hg3) rfl) ?_
            refine st_not (unwant rfl (yD 32 hg3) rfl) ?_
            refine st_not (unwant rfl (yD 32 hg3) rfl) ?_
            refine st_not (unwant rfl (yD 32 hg3) rfl) ?_
            refine q2 (.bool false) (x_pickF (b := x3) (by kernel_rfl) hg3 (by kernel_rfl)) ?_
            refine wpL_nil ?_
            exact ⟨false, H, Has.mk (by kernel_rfl), hs, hb, h⟩
      · skip
        rcases Bool.eq_false_or_eq_true x2 with hg4 | hg4
        · replace h := h.1 hg4
          refine q1 ((Sl.mk (some p2) 3 3).v) (want1 rfl (yD 25 hg4)) ?_
          refine q1 (.pointer (some (p1.add 1))) (want1 rfl (yD 25 hg4)) ?_
          refine stp (v := (.int .u64 cC1)) (want1 rfl (yD 25 hg4)) (x_load (a := (p1.add 1)) (by kernel_rfl) (Try.isAgg38 _) (hb.cell 0 1 (gZ) (by kernel_rfl))) ?_
          refine st_call (want1 rfl (yD 25 hg4)) (x_callE (args := #[(.pointer none), (Sl.mk (some p2) 3 3).v, (.int .u64 cC1)]) Try.call26 (by kernel_rfl)) (h.mono ?_)
          clear h
          rintro e w7 ⟨r4, rfl, hk, h⟩
          refine ⟨_, rfl, ?_⟩
          replace hs := hs.again hk
          replace hb := hb.kept hk
          clear hk
          refine q1 (.bool (!r4)) (want1 rfl (yD 25 hg4)) ?_
          refine q2 (.bool (!r4)) (x_pickT (b := x2) (by kernel_rfl) hg4 (by kernel_rfl)) ?_
          refine wpL_nil ?_
          exact ⟨(!r4), H, Has.mk (by kernel_rfl), hs, hb, h⟩
        · replace h := h.2 hg4
          refine st_not (unwant rfl (yD 25 hg4) rfl) ?_
          refine st_not (unwant rfl (yD 25 hg4) rfl) ?_
          refine st_not (unwant rfl (yD 25 hg4) rfl) ?_
          refine st_not (unwant rfl (yD 25 hg4) rfl) ?_
          refine st_not (unwant rfl (yD 25 hg4) rfl) ?_
          refine q2 (.bool false) (x_pickF (b := x2) (by kernel_rfl) hg4 (by kernel_rfl)) ?_
          refine wpL_nil ?_
          exact ⟨false, H, Has.mk (by kernel_rfl), hs, hb, h⟩
    · skip
      rcases Bool.eq_false_or_eq_true x1 with hg5 | hg5
      · replace h := h.1 hg5
        refine q1 ((Sl.mk (some p2) 3 3).v) (want1 rfl (yD 19 hg5)) ?_
        refine st_call (want1 rfl (yD 19 hg5)) (x_callE (args := #[(.pointer none), (Sl.mk (some p2) 3 3).v]) Try.call22 (by kernel_rfl)) (h.mono ?_)
        clear h
        rintro e w8 ⟨r5, rfl, hk, h⟩
        refine ⟨_, rfl, ?_⟩
        replace hs := hs.again hk
        replace hb := hb.kept hk
        clear hk
        refine q1 (.int .i64 (r5.len : Int)) (want1 rfl (yD 19 hg5)) ?_
        refine q1 (.bool (((r5.len : Int) : Int) == 0)) (want1 rfl (yD 19 hg5)) ?_
        refine q2 (.bool (((r5.len : Int) : Int) == 0)) (x_pickT (b := x1) (by kernel_rfl) hg5 (by kernel_rfl)) ?_
        refine wpL_nil ?_
        exact ⟨(((r5.len : Int) : Int) == 0), H, Has.mk (by kernel_rfl), hs, hb, h⟩
      · replace h := h.2 hg5
        refine st_not (unwant rfl (yD 19 hg5) rfl) ?_
        refine st_not (unwant rfl (yD 19 hg5) rfl) ?_
        refine st_not (unwant rfl (yD 19 hg5) rfl) ?_
        refine st_not (unwant rfl (yD 19 hg5) rfl) ?_
        refine q2 (.bool false) (x_pickF (b := x1) (by kernel_rfl) hg5 (by kernel_rfl)) ?_
        refine wpL_nil ?_
        exact ⟨false, H, Has.mk (by kernel_rfl), hs, hb, h⟩
  · skip
    rcases Bool.eq_false_or_eq_true ((rBound1 == false) && (((rWhy1 : Int) == 0) && ((rBy1 : Int) == (-1)))) with hg6 | hg6
    · replace h := h.1 hg6
      refine q1 ((Sl.mk (some p2) 3 3).v) (want1 rfl (yD 13 hg6)) ?_
      refine st_call (want1 rfl (yD 13 hg6)) (x_callE (args := #[(.pointer none), (Sl.mk (some p2) 3 3).v]) Try.call19 (by kernel_rfl)) (h.mono ?_)
      clear h
      rintro e w9 ⟨r6, rfl, hk, h⟩
      refine ⟨_, rfl, ?_⟩
      replace hs := hs.again hk
      replace hb := hb.kept hk
      clear hk
      refine q1 (.int .i64 (r6.len : Int)) (want1 rfl (yD 13 hg6)) ?_
      refine q1 (.bool (((r6.len : Int) : Int) == 0)) (want1 rfl (yD 13 hg6)) ?_
      refine q2 (.bool (((r6.len : Int) : Int) == 0)) (x_pickT (b := ((rBound1 == false) && (((rWhy1 : Int) == 0) && ((rBy1 : Int) == (-1))))) (by kernel_rfl) hg6 (by kernel_rfl)) ?_
      refine wpL_nil ?_
      exact ⟨(((r6.len : Int) : Int) == 0), H1, Has.mk (by kernel_rfl), hs, hb, h⟩
    · replace h := h.2 hg6
      refine st_not (unwant rfl (yD 13 hg6) rfl) ?_
      refine st_not (unwant rfl (yD 13 hg6) rfl) ?_
      refine st_not (unwant rfl (yD 13 hg6) rfl) ?_
      refine st_not (unwant rfl (yD 13 hg6) rfl) ?_
      refine q2 (.bool false) (x_pickF (b := ((rBound1 == false) && (((rWhy1 : Int) == 0) && ((rBy1 : Int) == (-1))))) (by kernel_rfl) hg6 (by kernel_rfl)) ?_
      refine wpL_nil ?_
      exact ⟨false, H1, Has.mk (by kernel_rfl), hs, hb, h⟩
end Go.Proofs
