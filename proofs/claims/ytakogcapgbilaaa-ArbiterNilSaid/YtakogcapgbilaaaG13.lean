import Derived.Test.YtakogcapgbilaaaProg
import Derived.KernelRfl
import Derived.Test.YtakogcapgbilaaaSeM
import Derived.Test.YtakogcapgbilaaaCArbR
open Go Go.SE
namespace Go.Proofs
attribute [local irreducible] wpL wpX opE wpE Calls
def m_arbiter_Bonds_j3 (p2 : Addr) (x2 : Int) (vWho1 : Int) (vC2 : Int) (vText2 : ByteArray) (out3 : Sl) (H : Nat → Prop) (w : World) (Kc2 : Sl → Int → (Nat → Prop) → World → Prop) (_K : Sl → World → Prop) : Prop :=
  ∃ C1 : World → Prop, C1 w.drew ∧ ∀ w10, w10 = w.drew →
  ∃ v2 : Int, (∀ w', C1 w' → (Instr.lookup 141 (.map (some p2.block)) (.agg #[(.int .i64 vWho1), (.int .u64 vC2), (.string vText2)]) false).run Try.prog w' = .ok (.int .i64 v2) w') ∧
  ∃ v3 : Int, ∃ z1 : Int, ∃ w11 : World, (Instr.mapEntry 141 (.map (some p2.block)) (.agg #[(.int .i64 vWho1), (.int .u64 vC2), (.string vText2)])).run Try.prog w10 = .ok (.tuple #[(.int .i64 v3), (.int .i64 z1)]) w11 ∧ C1 w11 ∧
  Kept H w10 w11 ∧
  ∃ w12 : World, (Instr.entryStore 141 (.map (some p2.block)) (.int .i64 z1) (.int .i64 (IntKind.i64.wrap (v2 + 1)))).run Try.prog w11 = .ok () w12 ∧
  Kept H w11 w12 ∧
  Kc2 out3 (IntKind.i64.wrap (x2 + 1)) H w12
def m_arbiter_Bonds_l2 (p2 : Addr) (x1 : Int) (r2 : Sl) (out2 : Sl) (x2 : Int) (w0 : World) (Hl2 : Nat → Prop) (wl2 : World) (Kc1 : Sl → Int → (Nat → Prop) → World → Prop) (Kc2 : Sl → Int → (Nat → Prop) → World → Prop) (K : Sl → World → Prop) : Prop :=
  Br (decide (x2 < (r2.len : Int)))
    (∃ a2 : Addr, At r2 x2 5 a2 ∧
    ∃ vWho1 : Int, ∃ vC2 : Int, ∃ vText2 : ByteArray, ∃ vWhy1 : Int, ∃ vBy1 : Int, Row wl2 a2 [(.int .i64 vWho1), (.int .u64 vC2), (.string vText2), (.int .i64 vWhy1), (.int .i64 vBy1)] ∧
    ∀ (H3 : Nat → Prop) (w9 : World), Hst w0 Hl2 wl2 H3 w9 →
    ∃ v1 : Int, (Instr.lookup 141 (.map (some p2.block)) (.agg #[(.int .i64 vWho1), (.int .u64 vC2), (.string vText2)]) false).run Try.prog w9 = .ok (.int .i64 v1) w9 ∧
    Br ((v1 : Int) == 0)
      (∀ (p6 : Addr) (w13 : World), New w9 (.cells #[(.int .i64 vWho1), (.int .u64 vC2), (.string vText2), (.int .i64 vWhy1), (.int .i64 vBy1)] 46) p6 w13 →
      ∃ s1 : Sl, ∃ w14 : World, (Builtin.append_ #[31, 31] 31 #[out2.v, (Sl.mk (some p6) 1 1).v]).run Try.prog w13 = .ok s1.v w14 ∧
      Kept H3 w13 w14 ∧
      m_arbiter_Bonds_j3 p2 x2 vWho1 vC2 vText2 s1 H3 w14 Kc2 K)
      (m_arbiter_Bonds_j3 p2 x2 vWho1 vC2 vText2 out2 H3 w9 Kc2 K))
    (Kc1 out2 (IntKind.i64.wrap (x1 + 1)) Hl2 wl2)
def m_arbiter_Bonds_l1 (p2 : Addr) (r1 : Sl) (out1 : Sl) (x1 : Int) (w0 : World) (Hl1 : Nat → Prop) (wl1 : World) (Kc1 : Sl → Int → (Nat → Prop) → World → Prop) (K : Sl → World → Prop) : Prop :=
  Br (decide (x1 < (r1.len : Int)))
    (∃ a1 : Addr, At r1 x1 5 a1 ∧
    ∃ vKind1 : Int, ∃ vFrom1 : Int, ∃ vC1 : Int, ∃ vText1 : ByteArray, ∃ vFake1 : Bool, Row wl1 a1 [(.int .i64 vKind1), (.int .i64 vFrom1), (.int .u64 vC1), (.string vText1), (.bool vFake1)] ∧
    ∀ (H1 : Nat → Prop) (w4 : World), Hst w0 Hl1 wl1 H1 w4 →
    Calls Try.prog 80 #[(.agg #[(.int .i64 vKind1), (.int .i64 vFrom1), (.int .u64 vC1), (.string vText1), (.bool vFake1)]), (.int .i64 x1)] w4 (fun e w5 => ∃ r2 : Sl, e = .returned r2.v ∧ 
      Kept H1 w4 w5 ∧
      ∃ (I2 : Sl → Int → (Nat → Prop) → World → Prop) (mu2 : Sl → Int → World → Nat), I2 out1 0 H1 w5 ∧
        ∀ (out2 : Sl) (x2 : Int) (Hl2 : Nat → Prop) (wl2 : World), Hst w0 Hl2 wl2 Hl2 wl2 → I2 out2 x2 Hl2 wl2 → m_arbiter_Bonds_l2 p2 x1 r2 out2 x2 w0 Hl2 wl2 Kc1 (fun y'0 y'1 H' w' => I2 y'0 y'1 H' w' ∧ mu2 y'0 y'1 w' < mu2 out2 x2 wl2) K))
    (K out1 wl1)
def m_arbiter_Bonds (p1 : Option Addr) (shown1 : Sl) (w0 : World) (K : Sl → World → Prop) : Prop :=
  ∀ (p2 : Addr) (w1 : World), New w0 (.map #[] 0) p2 w1 →
  Calls Try.prog 79 #[(.pointer p1), shown1.v] w1 (fun e w2 => ∃ r1 : Sl, e = .returned r1.v ∧ 
    Kept None w1 w2 ∧
    ∃ (I1 : Sl → Int → (Nat → Prop) → World → Prop) (mu1 : Sl → Int → World → Nat), I1 Sl.nil 0 None w2 ∧
      ∀ (out1 : Sl) (x1 : Int) (Hl1 : Nat → Prop) (wl1 : World), Hst w0 Hl1 wl1 Hl1 wl1 → I1 out1 x1 Hl1 wl1 → m_arbiter_Bonds_l1 p2 r1 out1 x1 w0 Hl1 wl1 (fun y'0 y'1 H' w' => I1 y'0 y'1 H' w' ∧ mu1 y'0 y'1 w' < mu1 out1 x1 wl1) K)
set_option maxRecDepth 100000 in
set_option maxHeartbeats 4000000 in
theorem w_arbiter_Bonds (p1 : Option Addr) (shown1 : Sl) (w0 : World) (K : Sl → World → Prop) (h : m_arbiter_Bonds p1 shown1 w0 K) :
    Calls Try.prog 19 #[(.pointer p1), shown1.v] w0 (fun e w' => ∃ r3 : Sl, e = .returned r3.v ∧ K r3 w') := by
  unfold m_arbiter_Bonds at h
  refine calls_of_wpE (args := [(.pointer p1), shown1.v]) Try.func19 rfl Try.ntmps19 (Nat.le_of_ble_eq_true rfl) ?_
  have hs := Hst.start w0
  have hb := HB.nil None w0
  refine wpE_seq ?_
  refine rg ?_
  refine q0 Sl.nil.v ?_
  refine wpL_nil ?_
  refine th_n ?_
  refine wpE_seq ?_
  refine rg ?_
  refine q0 Sl.nil.v ?_
  refine wpL_nil ?_
  refine th_n ?_
  refine wpE_seq ?_
  refine rg ?_
  refine st_new (O := (.map #[] 0)) (fun p => .map (some p.block)) (want0 rfl) (by kernel_rfl) ?_
  intro p2 w1 hn8
  replace h := h p2 w1 hn8
  replace hs := hs.again (Ext.new (F := None) hn8).keptP
  replace hb := hb.kept (Ext.new (F := None) hn8).keptP
  refine q0 (.map (some p2.block)) ?_
  refine wpL_nil ?_
  refine th_n ?_
  refine wpE_seq ?_
  refine wpE_seq ?_
  refine rg ?_
  refine q0 (.pointer p1) ?_
  refine q0 shown1.v ?_
  refine st_call (want0 rfl) (x_callE (args := #[(.pointer p1), shown1.v]) Try.call79 (by kernel_rfl)) (h.mono ?_)
  clear h
  rintro e w2 ⟨r1, rfl, hk, h⟩
  refine ⟨_, rfl, ?_⟩
  replace hs := hs.again hk
  replace hb := hb.kept hk
  clear hk
  refine q0 (.int .i64 (r1.len : Int)) ?_
  refine q0 (.int .i64 0) ?_
  refine wpL_nil ?_
  refine th_n ?_
  refine wpE_block ?_
  obtain ⟨I1, mu1, h0, hr⟩ := h
  refine wpE_loop (σ := Sl × Int × (Nat → Prop) × World) (fun s ρ w => w = s.2.2.2 ∧ Has ρ [(5, s.1.v), (6, (.map (some p2.block))), (15, r1.v), (16, (.int .i64 (r1.len : Int))), (17, (.int .i64 s.2.1))] ∧ Hst w0 s.2.2.1 w s.2.2.1 w ∧ HB s.2.2.1 w [] ∧ I1 s.1 s.2.1 s.2.2.1 s.2.2.2) (fun s => mu1 s.1 s.2.1 s.2.2.2) (Sl.nil, 0, None, w2) ⟨rfl, Has.mk (by kernel_rfl), hs, hb, h0⟩ ?_
  clear hs hb
  rintro ⟨out1, x1, Hl1, wl1⟩ ρ w ⟨hw, hH, hs, hb, hI⟩
  obtain rfl : wl1 = w := (show w = wl1 from hw).symm
  replace hH : Has ρ [(5, out1.v), (6, (.map (some p2.block))), (15, r1.v), (16, (.int .i64 (r1.len : Int))), (17, (.int .i64 x1))] := hH
  replace hs : Hst w0 Hl1 wl1 Hl1 wl1 := hs
  replace hb : HB Hl1 wl1 [] := hb
  have h := hr out1 x1 Hl1 wl1 hs hI
  clear hr h0
  unfold m_arbiter_Bonds_l1 at h
  refine wpE_has hH ?_
  clear hH hI
  refine wpE_seq ?_
  refine rg ?_
  refine q0 (.bool (decide (x1 < (r1.len : Int)))) ?_
  refine wpL_nil ?_
  refine th_n ?_
  refine wpE_seq ?_
  refine wpE_cond (t := (decide (x1 < (r1.len : Int)))) (by kernel_rfl) (fun hc1 => ?_) (fun hc1 => ?_)
  · replace h := h.1 hc1
    refine wpE_skip ?_
    refine th_n ?_
    refine wpE_seq ?_
    refine wpE_block ?_
    refine wpE_seq ?_
    refine rg ?_
    refine q0 (.int .i64 x1) ?_
    obtain ⟨a1, hv9, h⟩ := h
    refine q2 (.pointer (some a1)) (x_indexAddr (s := r1) (k := .i64) (i := x1) (by kernel_rfl) (by kernel_rfl) (Try.runUnderlying27 _) (Try.sizeOf132 _) hv9) ?_
    obtain ⟨vKind1, vFrom1, vC1, vText1, vFake1, hv8, h⟩ := h
    refine q2 (.agg #[(.int .i64 vKind1), (.int .i64 vFrom1), (.int .u64 vC1), (.string vText1), (.bool vFake1)]) (x_loadA (a := a1) (vs := [(.int .i64 vKind1), (.int .i64 vFrom1), (.int .u64 vC1), (.string vText1), (.bool vFake1)]) (by kernel_rfl) (Try.isAgg132 _) (Try.sizeOf132 _) rfl hv8) ?_
    refine st_new (O := (.cells #[(.int .i64 0), (.int .i64 0), (.int .u64 0), (.string (⟨#[]⟩ : ByteArray)), (.bool false)] 132)) (fun p => .pointer (some p)) (want0 rfl) (x_alloc (Try.zeroValue132 _) rfl) ?_
    intro p3 w3 hn1
    have hsb := hs.alloc hb hn1
    clear hs hb hn1
    obtain ⟨H1, hs, hb⟩ := hsb
    refine q0 (.int .i64 x1) ?_
    refine st_set (want0 rfl) (x_storeA (a := p3) (vs := [(.int .i64 vKind1), (.int .i64 vFrom1), (.int .u64 vC1), (.string vText1), (.bool vFake1)]) (by kernel_rfl) (by kernel_rfl) rfl (Try.sizeOf132 _) rfl (hb.canWs0 0 5 (gZ) (by kernel_rfl))) ?_
    intro w4 hn2
    have hsb : Hst w0 Hl1 wl1 H1 w4 ∧ HB H1 w4 [(p3, [(.int .i64 vKind1), (.int .i64 vFrom1), (.int .u64 vC1), (.string vText1), (.bool vFake1)], 132)] := by
      rw [hn2]
      exact hb.store0 (i := 0) (vs := [(.int .i64 vKind1), (.int .i64 vFrom1), (.int .u64 vC1), (.string vText1), (.bool vFake1)]) hs (gZ) (by kernel_rfl) (by kernel_rfl)
    clear hs hb hn2
    obtain ⟨hs, hb⟩ := hsb
    refine wpL_nil ?_
    refine th_n ?_
    refine wpE_seq ?_
    refine rg ?_
    refine q2 (.agg #[(.int .i64 vKind1), (.int .i64 vFrom1), (.int .u64 vC1), (.string vText1), (.bool vFake1)]) (x_loadA (a := p3) (vs := [(.int .i64 vKind1), (.int .i64 vFrom1), (.int .u64 vC1), (.string vText1), (.bool vFake1)]) (by kernel_rfl) (Try.isAgg132 _) (Try.sizeOf132 _) rfl (hb.row0 0 5 (gZ) (by kernel_rfl))) ?_
    refine q0 (.int .i64 x1) ?_
    replace h := h H1 w4 hs
    replace hs := hs.here
    refine st_call (want0 rfl) (x_callE (args := #[(.agg #[(.int .i64 vKind1), (.int .i64 vFrom1), (.int .u64 vC1), (.string vText1), (.bool vFake1)]), (.int .i64 x1)]) Try.call80 (by kernel_rfl)) (h.mono ?_)
    clear h
    rintro e w5 ⟨r2, rfl, hk, h⟩
    refine ⟨_, rfl, ?_⟩
    replace hs := hs.again hk
    replace hb := hb.kept hk
    clear hk
    refine q0 (.int .i64 (r2.len : Int)) ?_
    refine q0 (.int .i64 0) ?_
    refine wpL_nil ?_
    refine th_n ?_
    refine wpE_block ?_
    obtain ⟨I2, mu2, h0, hr⟩ := h
    refine wpE_loop (σ := Sl × Int × (Nat → Prop) × World) (fun s ρ w => w = s.2.2.2 ∧ Has ρ [(5, s.1.v), (6, (.map (some p2.block))), (15, r1.v), (16, (.int .i64 (r1.len : Int))), (17, (.int .i64 x1)), (24, r2.v), (25, (.int .i64 (r2.len : Int))), (26, (.int .i64 s.2.1))] ∧ Hst w0 s.2.2.1 w s.2.2.1 w ∧ HB s.2.2.1 w [(p3, [(.int .i64 vKind1), (.int .i64 vFrom1), (.int .u64 vC1), (.string vText1), (.bool vFake1)], 132)] ∧ I2 s.1 s.2.1 s.2.2.1 s.2.2.2) (fun s => mu2 s.1 s.2.1 s.2.2.2) (out1, 0, H1, w5) ⟨rfl, Has.mk (by kernel_rfl), hs, hb, h0⟩ ?_
    clear hs hb
    rintro ⟨out2, x2, Hl2, wl2⟩ ρ w ⟨hw, hH, hs, hb, hI⟩
    obtain rfl : wl2 = w := (show w = wl2 from hw).symm
    replace hH : Has ρ [(5, out2.v), (6, (.map (some p2.block))), (15, r1.v), (16, (.int .i64 (r1.len : Int))), (17, (.int .i64 x1)), (24, r2.v), (25, (.int .i64 (r2.len : Int))), (26, (.int .i64 x2))] := hH
    replace hs : Hst w0 Hl2 wl2 Hl2 wl2 := hs
    replace hb : HB Hl2 wl2 [(p3, [(.int .i64 vKind1), (.int .i64 vFrom1), (.int .u64 vC1), (.string vText1), (.bool vFake1)], 132)] := hb
    have h := hr out2 x2 Hl2 wl2 hs hI
    clear hr h0
    unfold m_arbiter_Bonds_l2 at h
    refine wpE_has hH ?_
    clear hH hI
    refine wpE_seq ?_
    refine rg ?_
    refine q0 (.bool (decide (x2 < (r2.len : Int)))) ?_
    refine wpL_nil ?_
    refine th_n ?_
    refine wpE_seq ?_
    refine wpE_cond (t := (decide (x2 < (r2.len : Int)))) (by kernel_rfl) (fun hc2 => ?_) (fun hc2 => ?_)
    · replace h := h.1 hc2
      refine wpE_skip ?_
      refine th_n ?_
      refine wpE_seq ?_
      refine wpE_block ?_
      refine wpE_seq ?_
      refine rg ?_
      obtain ⟨a2, hv7, h⟩ := h
      refine q2 (.pointer (some a2)) (x_indexAddr (s := r2) (k := .i64) (i := x2) (by kernel_rfl) (by kernel_rfl) (Try.runUnderlying31 _) (Try.sizeOf46 _) hv7) ?_
      obtain ⟨vWho1, vC2, vText2, vWhy1, vBy1, hv6, h⟩ := h
      refine q2 (.agg #[(.int .i64 vWho1), (.int .u64 vC2), (.string vText2), (.int .i64 vWhy1), (.int .i64 vBy1)]) (x_loadA (a := a2) (vs := [(.int .i64 vWho1), (.int .u64 vC2), (.string vText2), (.int .i64 vWhy1), (.int .i64 vBy1)]) (by kernel_rfl) (Try.isAgg46 _) (Try.sizeOf46 _) rfl hv6) ?_
      refine st_new (O := (.cells #[(.int .i64 0), (.int .u64 0), (.string (⟨#[]⟩ : ByteArray)), (.int .i64 0), (.int .i64 0)] 46)) (fun p => .pointer (some p)) (want0 rfl) (x_alloc (Try.zeroValue46 _) rfl) ?_
      intro p4 w6 hn3
      have hsb := hs.alloc hb hn3
      clear hs hb hn3
      obtain ⟨H2, hs, hb⟩ := hsb
      refine st_set (want0 rfl) (x_storeA (a := p4) (vs := [(.int .i64 vWho1), (.int .u64 vC2), (.string vText2), (.int .i64 vWhy1), (.int .i64 vBy1)]) (by kernel_rfl) (by kernel_rfl) rfl (Try.sizeOf46 _) rfl (hb.canWs0 0 5 (gZ) (by kernel_rfl))) ?_
      intro w7 hn4
      have hsb : Hst w0 Hl2 wl2 H2 w7 ∧ HB H2 w7 [(p4, [(.int .i64 vWho1), (.int .u64 vC2), (.string vText2), (.int .i64 vWhy1), (.int .i64 vBy1)], 46), (p3, [(.int .i64 vKind1), (.int .i64 vFrom1), (.int .u64 vC1), (.string vText1), (.bool vFake1)], 132)] := by
        rw [hn4]
        exact hb.store0 (i := 0) (vs := [(.int .i64 vWho1), (.int .u64 vC2), (.string vText2), (.int .i64 vWhy1), (.int .i64 vBy1)]) hs (gZ) (by kernel_rfl) (by kernel_rfl)
      clear hs hb hn4
      obtain ⟨hs, hb⟩ := hsb
      refine wpL_nil ?_
      refine th_n ?_
      refine wpE_seq ?_
      refine rg ?_
      refine q0 (.pointer (some p4)) ?_
      refine q2 (.int .i64 vWho1) (x_load (a := p4) (by kernel_rfl) (Try.isAgg3 _) (hb.cell0 0 (gZ) (by kernel_rfl))) ?_
      refine q0 (.pointer (some (p4.add 1))) ?_
      refine q2 (.int .u64 vC2) (x_load (a := (p4.add 1)) (by kernel_rfl) (Try.isAgg38 _) (hb.cell 0 1 (gZ) (by kernel_rfl))) ?_
      refine q0 (.pointer (some (p4.add 2))) ?_
      refine q2 (.string vText2) (x_load (a := (p4.add 2)) (by kernel_rfl) (Try.isAgg9 _) (hb.cell 0 2 (gZ) (by kernel_rfl))) ?_
      refine q0 (.agg #[(.int .i64 vWho1), (.int .u64 vC2), (.string vText2)]) ?_
      refine st_new (O := (.cells #[(.int .i64 0), (.int .u64 0), (.string (⟨#[]⟩ : ByteArray))] 40)) (fun p => .pointer (some p)) (want0 rfl) (x_alloc (Try.zeroValue40 _) rfl) ?_
      intro p5 w8 hn5
      have hsb := hs.alloc hb hn5
      clear hs hb hn5
      obtain ⟨H3, hs, hb⟩ := hsb
      refine st_set (want0 rfl) (x_storeA (a := p5) (vs := [(.int .i64 vWho1), (.int .u64 vC2), (.string vText2)]) (by kernel_rfl) (by kernel_rfl) rfl (Try.sizeOf40 _) rfl (hb.canWs0 0 3 (gZ) (by kernel_rfl))) ?_
      intro w9 hn6
      have hsb : Hst w0 Hl2 wl2 H3 w9 ∧ HB H3 w9 [(p5, [(.int .i64 vWho1), (.int .u64 vC2), (.string vText2)], 40), (p4, [(.int .i64 vWho1), (.int .u64 vC2), (.string vText2), (.int .i64 vWhy1), (.int .i64 vBy1)], 46), (p3, [(.int .i64 vKind1), (.int .i64 vFrom1), (.int .u64 vC1), (.string vText1), (.bool vFake1)], 132)] := by
        rw [hn6]
        exact hb.store0 (i := 0) (vs := [(.int .i64 vWho1), (.int .u64 vC2), (.string vText2)]) hs (gZ) (by kernel_rfl) (by kernel_rfl)
      clear hs hb hn6
      obtain ⟨hs, hb⟩ := hsb
      refine wpL_nil ?_
      refine th_n ?_
      refine wpE_seq ?_
      refine wpE_seq ?_
      refine rg ?_
      refine q0 (.map (some p2.block)) ?_
      refine q2 (.agg #[(.int .i64 vWho1), (.int .u64 vC2), (.string vText2)]) (x_loadA (a := p5) (vs := [(.int .i64 vWho1), (.int .u64 vC2), (.string vText2)]) (by kernel_rfl) (Try.isAgg40 _) (Try.sizeOf40 _) rfl (hb.row0 0 3 (gZ) (by kernel_rfl))) ?_
      replace h := h H3 w9 hs
      replace hs := hs.here
      obtain ⟨v1, hv5, h⟩ := h
      refine q2 (.int .i64 v1) (x_lookup (by kernel_rfl) (by kernel_rfl) hv5) ?_
      refine q0 (.bool ((v1 : Int) == 0)) ?_
      refine wpL_nil ?_
      refine th_n ?_
      refine wpE_joinT (fun ρ w => ∃ out3 : Sl, ∃ H : Nat → Prop, Has ρ [(5, out3.v), (6, (.map (some p2.block))), (11, (.pointer (some p5))), (15, r1.v), (16, (.int .i64 (r1.len : Int))), (17, (.int .i64 x1)), (24, r2.v), (25, (.int .i64 (r2.len : Int))), (26, (.int .i64 x2))] ∧ Hst w0 H w H w ∧ HB H w [(p5, [(.int .i64 vWho1), (.int .u64 vC2), (.string vText2)], 40), (p4, [(.int .i64 vWho1), (.int .u64 vC2), (.string vText2), (.int .i64 vWhy1), (.int .i64 vBy1)], 46), (p3, [(.int .i64 vKind1), (.int .i64 vFrom1), (.int .u64 vC1), (.string vText1), (.bool vFake1)], 132)] ∧ m_arbiter_Bonds_j3 p2 x2 vWho1 vC2 vText2 out3 H w (fun y'0 y'1 H' w' => I2 y'0 y'1 H' w' ∧ mu2 y'0 y'1 w' < mu2 out2 x2 wl2) K) ?_ ?_
      · clear h hs hb
        rintro ρ w ⟨out3, H, hH, hs, hb, h⟩
        unfold m_arbiter_Bonds_j3 at h
        refine wpE_has hH ?_
        clear hH
        obtain ⟨C1, hC, h⟩ := h
        refine wpE_drawnC (fun x => C1 x ∧ HB H x [(p5, [(.int .i64 vWho1), (.int .u64 vC2), (.string vText2)], 40), (p4, [(.int .i64 vWho1), (.int .u64 vC2), (.string vText2), (.int .i64 vWhy1), (.int .i64 vBy1)], 46), (p3, [(.int .i64 vKind1), (.int .i64 vFrom1), (.int .u64 vC1), (.string vText1), (.bool vFake1)], 132)]) [4, 6] [6] (by kernel_rfl) (by kernel_rfl) (by kernel_rfl) (by kernel_rfl) ⟨hC, hb.drew⟩ ?_
        clear hC
        intro w10 hw10
        replace h := h w10 hw10
        replace hs : Hst w0 H w H w10 := by rw [hw10]; exact hs.drew
        replace hb : HB H w10 [(p5, [(.int .i64 vWho1), (.int .u64 vC2), (.string vText2)], 40), (p4, [(.int .i64 vWho1), (.int .u64 vC2), (.string vText2), (.int .i64 vWhy1), (.int .i64 vBy1)], 46), (p3, [(.int .i64 vKind1), (.int .i64 vFrom1), (.int .u64 vC1), (.string vText1), (.bool vFake1)], 132)] := by rw [hw10]; exact hb.drew
        replace hs := hs.here
        refine qx 0 (.map (some p2.block)) Kp0 ?_
        refine qz 1 (.agg #[(.int .i64 vWho1), (.int .u64 vC2), (.string vText2)]) Kp1 (fun w' hw' => (x_loadA (a := p5) (vs := [(.int .i64 vWho1), (.int .u64 vC2), (.string vText2)]) (by kernel_rfl) (Try.isAgg40 _) (Try.sizeOf40 _) rfl (hw'.2.row0 0 3 (gZ) (by kernel_rfl)))) ?_
        refine qgo (k := 2) (by kernel_rfl) ?_
        obtain ⟨v2, hv3, h⟩ := h
        refine sx (v := (.int .i64 v2)) Kp2 (want0 rfl) (by kernel_rfl) (fun w' hw' => (x_lookup (by kernel_rfl) (by kernel_rfl) (hv3 w' hw'.1))) ?_
        refine qx 3 (.int .i64 (IntKind.i64.wrap (v2 + 1))) Kp3 ?_
        refine lgo (k := 4) (by kernel_rfl) ?_
        obtain ⟨v3, z1, w11, hv2, hC, hk, h⟩ := h
        refine sl (v := (.tuple #[(.int .i64 v3), (.int .i64 z1)])) Kp4 (want0 rfl) (by kernel_rfl) (x_mapEntry (by kernel_rfl) (by kernel_rfl) hv2) (.inr ⟨hC, hb.kept hk⟩) ?_
        clear hC
        replace hs := hs.again hk
        replace hb := hb.kept hk
        clear hk
        refine qx 5 (.int .i64 z1) Kp5 ?_
        refine lgo (k := 6) (by kernel_rfl) ?_
        obtain ⟨w12, hv1, hk, h⟩ := h
        refine sl_skip Kp6 (want0 rfl) (by kernel_rfl) (x_entryStore (by kernel_rfl) (by kernel_rfl) (by kernel_rfl) hv1) (.inl (by kernel_rfl)) ?_
        replace hs := hs.again hk
        replace hb := hb.kept hk
        clear hk
        refine wpX_nil (by kernel_rfl) ?_
        refine bl_n ?_
        refine th_n ?_
        refine rg ?_
        refine q0 (.int .i64 (IntKind.i64.wrap (x2 + 1))) ?_
        refine q0 (.int .i64 (IntKind.i64.wrap (x2 + 1))) ?_
        refine wpL_nil ?_
        refine th_n ?_
        exact ⟨(out3, (IntKind.i64.wrap (x2 + 1)), H, w12), ⟨rfl, Has.mk (by kernel_rfl), hs, hb.drop 2, h.1⟩, h.2⟩
      · skip
        refine wpE_cond (t := ((v1 : Int) == 0)) (by kernel_rfl) (fun hc3 => ?_) (fun hc3 => ?_)
        · replace h := h.1 hc3
          refine rg ?_
          refine q0 out2.v ?_
          refine q2 (.agg #[(.int .i64 vWho1), (.int .u64 vC2), (.string vText2), (.int .i64 vWhy1), (.int .i64 vBy1)]) (x_loadA (a := p4) (vs := [(.int .i64 vWho1), (.int .u64 vC2), (.string vText2), (.int .i64 vWhy1), (.int .i64 vBy1)]) (by kernel_rfl) (Try.isAgg46 _) (Try.sizeOf46 _) rfl (hb.row0 1 5 (gS (gZ)) (by kernel_rfl))) ?_
          refine st_new (O := (.cells #[(.int .i64 vWho1), (.int .u64 vC2), (.string vText2), (.int .i64 vWhy1), (.int .i64 vBy1)] 46)) (fun p => (Sl.mk (some p) 1 1).v) (want0 rfl) (x_buildSlice (vs := #[(0, (.agg #[(.int .i64 vWho1), (.int .u64 vC2), (.string vText2), (.int .i64 vWhy1), (.int .i64 vBy1)]))]) (by kernel_rfl) (by kernel_rfl)) ?_
          intro p6 w13 hn7
          replace h := h p6 w13 hn7
          replace hs := hs.again (Ext.new (F := None) hn7).keptP
          replace hb := hb.kept (Ext.new (F := None) hn7).keptP
          obtain ⟨s1, w14, hv4, hk, h⟩ := h
          refine st (v := s1.v) (want0 rfl) (x_builtin (args := #[out2.v, (Sl.mk (some p6) 1 1).v]) (by kernel_rfl) (fun _ => rfl) hv4) ?_
          replace hs := hs.again hk
          replace hb := hb.kept hk
          clear hk
          refine q0 s1.v ?_
          refine wpL_nil ?_
          refine th_n ?_
          exact ⟨s1, H3, Has.mk (by kernel_rfl), hs, hb, h⟩
        · replace h := h.2 hc3
          refine wpE_skip ?_
          refine th_n ?_
          exact ⟨out2, H3, Has.mk (by kernel_rfl), hs, hb, h⟩
    · replace h := h.2 hc2
      refine wpE_exit ?_
      refine th_x ?_
      refine th_x ?_
      refine bl_eq ?_
      refine bl_n ?_
      refine th_n ?_
      refine rg ?_
      refine q0 (.int .i64 (IntKind.i64.wrap (x1 + 1))) ?_
      refine q0 (.int .i64 (IntKind.i64.wrap (x1 + 1))) ?_
      refine wpL_nil ?_
      refine th_n ?_
      exact ⟨(out2, (IntKind.i64.wrap (x1 + 1)), Hl2, wl2), ⟨rfl, Has.mk (by kernel_rfl), hs, hb.drop 1, h.1⟩, h.2⟩
  · replace h := h.2 hc1
    refine wpE_exit ?_
    refine th_x ?_
    refine th_x ?_
    refine bl_eq ?_
    refine th_n ?_
    refine wpE_seq ?_
    refine rg ?_
    refine q0 out1.v ?_
    refine q0 out1.v ?_
    refine wpL_nil ?_
    refine th_n ?_
    refine wpE_ret ?_
    refine res1 (.inl rfl) Try.results19 (v := out1.v) (by kernel_rfl) ?_
    exact ⟨out1, rfl, h⟩

def m_arbiter_Faults_j3 (p2 : Addr) (x1 : Int) (out2 : Sl) (k1 : Int) (vKind1 : Int) (vFrom1 : Int) (vC1 : Int) (vText1 : ByteArray) (vFake1 : Bool) (vKind2 : Int) (vFrom2 : Int) (vC2 : Int) (vText2 : ByteArray) (vFake2 : Bool) (x2 : Bool) (w0 : World) (H : Nat → Prop) (w : World) (Kc2 : Sl → Int → (Nat → Prop) → World → Prop) (_K : Sl → World → Prop) : Prop :=
  Br x2
    (Kc2 out2 (IntKind.i64.wrap (k1 + 1)) H w)
    (∃ C2 : World → Prop, C2 w.drew ∧ ∀ w17, w17 = w.drew →
    ∃ v1 : Int, (∀ w', C2 w' → (Instr.lookup 145 (.map (some p2.block)) (.agg #[(.int .i64 (s_arbiter_fault vKind1 vFrom1 vC1 vText1 vFake1 vKind2 vFrom2 vC2 vText2 vFake2).1), (.int .u64 (s_arbiter_fault vKind1 vFrom1 vC1 vText1 vFake1 vKind2 vFrom2 vC2 vText2 vFake2).2.1), (.int .i64 (s_arbiter_fault vKind1 vFrom1 vC1 vText1 vFake1 vKind2 vFrom2 vC2 vText2 vFake2).2.2.1), (.int .i64 (s_arbiter_fault vKind1 vFrom1 vC1 vText1 vFake1 vKind2 vFrom2 vC2 vText2 vFake2).2.2.2.1), (.int .i64 (s_arbiter_fault vKind1 vFrom1 vC1 vText1 vFake1 vKind2 vFrom2 vC2 vText2 vFake2).2.2.2.2)]) false).run Try.prog w' = .ok (.int .i64 v1) w') ∧
    ∃ v2 : Int, ∃ z1 : Int, ∃ w18 : World, (Instr.mapEntry 145 (.map (some p2.block)) (.agg #[(.int .i64 (s_arbiter_fault vKind1 vFrom1 vC1 vText1 vFake1 vKind2 vFrom2 vC2 vText2 vFake2).1), (.int .u64 (s_arbiter_fault vKind1 vFrom1 vC1 vText1 vFake1 vKind2 vFrom2 vC2 vText2 vFake2).2.1), (.int .i64 (s_arbiter_fault vKind1 vFrom1 vC1 vText1 vFake1 vKind2 vFrom2 vC2 vText2 vFake2).2.2.1), (.int .i64 (s_arbiter_fault vKind1 vFrom1 vC1 vText1 vFake1 vKind2 vFrom2 vC2 vText2 vFake2).2.2.2.1), (.int .i64 (s_arbiter_fault vKind1 vFrom1 vC1 vText1 vFake1 vKind2 vFrom2 vC2 vText2 vFake2).2.2.2.2)])).run Try.prog w17 = .ok (.tuple #[(.int .i64 v2), (.int .i64 z1)]) w18 ∧ C2 w18 ∧
    Kept H w17 w18 ∧
    ∃ w19 : World, (Instr.entryStore 145 (.map (some p2.block)) (.int .i64 z1) (.int .i64 (IntKind.i64.wrap (v1 + 1)))).run Try.prog w18 = .ok () w19 ∧
    Kept H w18 w19 ∧
    ∀ (w21 : World), Hst w0 H w19 H w21 →
    ∀ (p8 : Addr) (w22 : World), New w21 (.cells #[(.int .i64 (s_arbiter_fault vKind1 vFrom1 vC1 vText1 vFake1 vKind2 vFrom2 vC2 vText2 vFake2).1), (.int .u64 (s_arbiter_fault vKind1 vFrom1 vC1 vText1 vFake1 vKind2 vFrom2 vC2 vText2 vFake2).2.1), (.int .i64 (s_arbiter_fault vKind1 vFrom1 vC1 vText1 vFake1 vKind2 vFrom2 vC2 vText2 vFake2).2.2.1), (.int .i64 x1), (.int .i64 k1)] 134) p8 w22 →
    ∃ s1 : Sl, ∃ w23 : World, (Builtin.append_ #[35, 35] 35 #[out2.v, (Sl.mk (some p8) 1 1).v]).run Try.prog w22 = .ok s1.v w23 ∧
    Kept H w22 w23 ∧
    Kc2 s1 (IntKind.i64.wrap (k1 + 1)) H w23)
def m_arbiter_Faults_l2 (p2 : Addr) (r1 : Sl) (x1 : Int) (out2 : Sl) (k1 : Int) (w0 : World) (Hl2 : Nat → Prop) (wl2 : World) (Kc1 : Sl → Int → (Nat → Prop) → World → Prop) (Kc2 : Sl → Int → (Nat → Prop) → World → Prop) (K : Sl → World → Prop) : Prop :=
  Br (decide (k1 < (r1.len : Int)))
    (∃ a1 : Addr, At r1 x1 5 a1 ∧
    ∃ vKind1 : Int, ∃ vFrom1 : Int, ∃ vC1 : Int, ∃ vText1 : ByteArray, ∃ vFake1 : Bool, Row wl2 a1 [(.int .i64 vKind1), (.int .i64 vFrom1), (.int .u64 vC1), (.string vText1), (.bool vFake1)] ∧ ¬ Hl2 a1.block ∧
    ∃ a2 : Addr, At r1 k1 5 a2 ∧
    ∃ vKind2 : Int, ∃ vFrom2 : Int, ∃ vC2 : Int, ∃ vText2 : ByteArray, ∃ vFake2 : Bool, Row wl2 a2 [(.int .i64 vKind2), (.int .i64 vFrom2), (.int .u64 vC2), (.string vText2), (.bool vFake2)] ∧ ¬ Hl2 a2.block ∧
    Br (((s_arbiter_fault vKind1 vFrom1 vC1 vText1 vFake1 vKind2 vFrom2 vC2 vText2 vFake2).2.2.1 : Int) == 0)
      (∀ (H3 : Nat → Prop) (w10 : World), Hst w0 Hl2 wl2 H3 w10 →
      m_arbiter_Faults_j3 p2 x1 out2 k1 vKind1 vFrom1 vC1 vText1 vFake1 vKind2 vFrom2 vC2 vText2 vFake2 true w0 H3 w10 Kc2 K)
      (∀ (H3 : Nat → Prop) (w10 : World), Hst w0 Hl2 wl2 H3 w10 →
      ∃ v3 : Int, (Instr.lookup 145 (.map (some p2.block)) (.agg #[(.int .i64 (s_arbiter_fault vKind1 vFrom1 vC1 vText1 vFake1 vKind2 vFrom2 vC2 vText2 vFake2).1), (.int .u64 (s_arbiter_fault vKind1 vFrom1 vC1 vText1 vFake1 vKind2 vFrom2 vC2 vText2 vFake2).2.1), (.int .i64 (s_arbiter_fault vKind1 vFrom1 vC1 vText1 vFake1 vKind2 vFrom2 vC2 vText2 vFake2).2.2.1), (.int .i64 (s_arbiter_fault vKind1 vFrom1 vC1 vText1 vFake1 vKind2 vFrom2 vC2 vText2 vFake2).2.2.2.1), (.int .i64 (s_arbiter_fault vKind1 vFrom1 vC1 vText1 vFake1 vKind2 vFrom2 vC2 vText2 vFake2).2.2.2.2)]) false).run Try.prog w10 = .ok (.int .i64 v3) w10 ∧
      m_arbiter_Faults_j3 p2 x1 out2 k1 vKind1 vFrom1 vC1 vText1 vFake1 vKind2 vFrom2 vC2 vText2 vFake2 (decide (v3 > 0)) w0 H3 w10 Kc2 K))
    (Kc1 out2 (IntKind.i64.wrap (x1 + 1)) Hl2 wl2)
def m_arbiter_Faults_l1 (p2 : Addr) (r1 : Sl) (out1 : Sl) (x1 : Int) (w0 : World) (Hl1 : Nat → Prop) (wl1 : World) (Kc1 : Sl → Int → (Nat → Prop) → World → Prop) (K : Sl → World → Prop) : Prop :=
  Br (decide (x1 < (r1.len : Int)))
    (∃ (I2 : Sl → Int → (Nat → Prop) → World → Prop) (mu2 : Sl → Int → World → Nat), I2 out1 (IntKind.i64.wrap (x1 + 1)) Hl1 wl1 ∧
      ∀ (out2 : Sl) (k1 : Int) (Hl2 : Nat → Prop) (wl2 : World), Hst w0 Hl2 wl2 Hl2 wl2 → I2 out2 k1 Hl2 wl2 → m_arbiter_Faults_l2 p2 r1 x1 out2 k1 w0 Hl2 wl2 Kc1 (fun y'0 y'1 H' w' => I2 y'0 y'1 H' w' ∧ mu2 y'0 y'1 w' < mu2 out2 k1 wl2) K)
    (K out1 wl1)
def m_arbiter_Faults (p1 : Option Addr) (shown1 : Sl) (w0 : World) (K : Sl → World → Prop) : Prop :=
  ∀ (p2 : Addr) (w1 : World), New w0 (.map #[] 0) p2 w1 →
  Calls Try.prog 79 #[(.pointer p1), shown1.v] w1 (fun e w2 => ∃ r1 : Sl, e = .returned r1.v ∧ 
    Kept None w1 w2 ∧
    ∃ (I1 : Sl → Int → (Nat → Prop) → World → Prop) (mu1 : Sl → Int → World → Nat), I1 Sl.nil 0 None w2 ∧
      ∀ (out1 : Sl) (x1 : Int) (Hl1 : Nat → Prop) (wl1 : World), Hst w0 Hl1 wl1 Hl1 wl1 → I1 out1 x1 Hl1 wl1 → m_arbiter_Faults_l1 p2 r1 out1 x1 w0 Hl1 wl1 (fun y'0 y'1 H' w' => I1 y'0 y'1 H' w' ∧ mu1 y'0 y'1 w' < mu1 out1 x1 wl1) K)
set_option maxRecDepth 100000 in
set_option maxHeartbeats 4000000 in
theorem w_arbiter_Faults (p1 : Option Addr) (shown1 : Sl) (w0 : World) (K : Sl → World → Prop) (h : m_arbiter_Faults p1 shown1 w0 K) :
    Calls Try.prog 22 #[(.pointer p1), shown1.v] w0 (fun e w' => ∃ r2 : Sl, e = .returned r2.v ∧ K r2 w') := by
  unfold m_arbiter_Faults at h
  refine calls_of_wpE (args := [(.pointer p1), shown1.v]) Try.func22 rfl Try.ntmps22 (Nat.le_of_ble_eq_true rfl) ?_
  have hs := Hst.start w0
  have hb := HB.nil None w0
  refine wpE_seq ?_
  refine rg ?_
  refine q0 Sl.nil.v ?_
  refine wpL_nil ?_
  refine th_n ?_
  refine wpE_seq ?_
  refine rg ?_
  refine q0 Sl.nil.v ?_
  refine wpL_nil ?_
  refine th_n ?_
  refine wpE_seq ?_
  refine rg ?_
  refine st_new (O := (.map #[] 0)) (fun p => .map (some p.block)) (want0 rfl) (by kernel_rfl) ?_
  intro p2 w1 hn12
  replace h := h p2 w1 hn12
  replace hs := hs.again (Ext.new (F := None) hn12).keptP
  replace hb := hb.kept (Ext.new (F := None) hn12).keptP
  refine q0 (.map (some p2.block)) ?_
  refine wpL_nil ?_
  refine th_n ?_
  refine wpE_seq ?_
  refine rg ?_
  refine q0 (.pointer p1) ?_
  refine q0 shown1.v ?_
  refine st_call (want0 rfl) (x_callE (args := #[(.pointer p1), shown1.v]) Try.call79 (by kernel_rfl)) (h.mono ?_)
  clear h
  rintro e w2 ⟨r1, rfl, hk, h⟩
  refine ⟨_, rfl, ?_⟩
  replace hs := hs.again hk
  replace hb := hb.kept hk
  clear hk
  refine q0 r1.v ?_
  refine wpL_nil ?_
  refine th_n ?_
  refine wpE_seq ?_
  refine wpE_seq ?_
  refine rg ?_
  refine q0 r1.v ?_
  refine q0 (.int .i64 (r1.len : Int)) ?_
  refine q0 (.int .i64 0) ?_
  refine wpL_nil ?_
  refine th_n ?_
  refine wpE_block ?_
  obtain ⟨I1, mu1, h0, hr⟩ := h
  refine wpE_loop (σ := Sl × Int × (Nat → Prop) × World) (fun s ρ w => w = s.2.2.2 ∧ Has ρ [(5, s.1.v), (6, (.map (some p2.block))), (7, r1.v), (16, (.int .i64 (r1.len : Int))), (17, (.int .i64 s.2.1))] ∧ Hst w0 s.2.2.1 w s.2.2.1 w ∧ HB s.2.2.1 w [] ∧ I1 s.1 s.2.1 s.2.2.1 s.2.2.2) (fun s => mu1 s.1 s.2.1 s.2.2.2) (Sl.nil, 0, None, w2) ⟨rfl, Has.mk (by kernel_rfl), hs, hb, h0⟩ ?_
  clear hs hb
  rintro ⟨out1, x1, Hl1, wl1⟩ ρ w ⟨hw, hH, hs, hb, hI⟩
  obtain rfl : wl1 = w := (show w = wl1 from hw).symm
  replace hH : Has ρ [(5, out1.v), (6, (.map (some p2.block))), (7, r1.v), (16, (.int .i64 (r1.len : Int))), (17, (.int .i64 x1))] := hH
  replace hs : Hst w0 Hl1 wl1 Hl1 wl1 := hs
  replace hb : HB Hl1 wl1 [] := hb
  have h := hr out1 x1 Hl1 wl1 hs hI
  clear hr h0
  unfold m_arbiter_Faults_l1 at h
  refine wpE_has hH ?_
  clear hH hI
  refine wpE_seq ?_
  refine rg ?_
  refine q0 (.bool (decide (x1 < (r1.len : Int)))) ?_
  refine wpL_nil ?_
  refine th_n ?_
  refine wpE_seq ?_
  refine wpE_cond (t := (decide (x1 < (r1.len : Int)))) (by kernel_rfl) (fun hc1 => ?_) (fun hc1 => ?_)
  · replace h := h.1 hc1
    refine wpE_skip ?_
    refine th_n ?_
    refine wpE_seq ?_
    refine wpE_block ?_
    refine wpE_seq ?_
    refine rg ?_
    refine q0 (.int .i64 x1) ?_
    refine q0 (.int .i64 x1) ?_
    refine wpL_nil ?_
    refine th_n ?_
    refine wpE_scope (fun _ _ _ h => h) ?_
    refine wpE_seq ?_
    refine wpE_label ?_
    refine th_n ?_
    refine wpE_seq ?_
    refine rg ?_
    refine q0 (.int .i64 x1) ?_
    refine q0 (.int .i64 (IntKind.i64.wrap (x1 + 1))) ?_
    refine q0 (.int .i64 (IntKind.i64.wrap (x1 + 1))) ?_
    refine wpL_nil ?_
    refine th_n ?_
    refine wpE_block ?_
    obtain ⟨I2, mu2, h0, hr⟩ := h
    refine wpE_loop (σ := Sl × Int × (Nat → Prop) × World) (fun s ρ w => w = s.2.2.2 ∧ Has ρ [(5, s.1.v), (6, (.map (some p2.block))), (7, r1.v), (8, (.int .i64 x1)), (9, (.int .i64 s.2.1)), (16, (.int .i64 (r1.len : Int))), (17, (.int .i64 x1))] ∧ Hst w0 s.2.2.1 w s.2.2.1 w ∧ HB s.2.2.1 w [] ∧ I2 s.1 s.2.1 s.2.2.1 s.2.2.2) (fun s => mu2 s.1 s.2.1 s.2.2.2) (out1, (IntKind.i64.wrap (x1 + 1)), Hl1, wl1) ⟨rfl, Has.mk (by kernel_rfl), hs, hb, h0⟩ ?_
    clear hs hb
    rintro ⟨out2, k1, Hl2, wl2⟩ ρ w ⟨hw, hH, hs, hb, hI⟩
    obtain rfl : wl2 = w := (show w = wl2 from hw).symm
    replace hH : Has ρ [(5, out2.v), (6, (.map (some p2.block))), (7, r1.v), (8, (.int .i64 x1)), (9, (.int .i64 k1)), (16, (.int .i64 (r1.len : Int))), (17, (.int .i64 x1))] := hH
    replace hs : Hst w0 Hl2 wl2 Hl2 wl2 := hs
    replace hb : HB Hl2 wl2 [] := hb
    have h := hr out2 k1 Hl2 wl2 hs hI
    clear hr h0
    unfold m_arbiter_Faults_l2 at h
    refine wpE_has hH ?_
    clear hH hI
    refine wpE_seq ?_
    refine wpE_seq ?_
    refine rg ?_
    refine q0 (.int .i64 k1) ?_
    refine q0 r1.v ?_
    refine q0 (.int .i64 (r1.len : Int)) ?_
    refine q0 (.bool (decide (k1 < (r1.len : Int)))) ?_
    refine wpL_nil ?_
    refine th_n ?_
    refine wpE_cond (t := (decide (k1 < (r1.len : Int)))) (by kernel_rfl) (fun hc2 => ?_) (fun hc2 => ?_)
    · replace h := h.1 hc2
      refine wpE_skip ?_
      refine th_n ?_
      refine wpE_seq ?_
      refine wpE_block ?_
      refine wpE_seq ?_
      refine wpE_drawnC (fun x => ∃ H', Hst w0 Hl2 wl2 H' x ∧ HB H' x []) [8, 9, 10] [8, 10] (by kernel_rfl) (by kernel_rfl) (by kernel_rfl) (by kernel_rfl) ⟨_, hs.drew, hb.drew⟩ ?_
      intro w3 hw3
      replace hs : Hst w0 Hl2 wl2 Hl2 w3 := by rw [hw3]; exact hs.drew
      replace hb : HB Hl2 w3 [] := by rw [hw3]; exact hb.drew
      clear hw3
      refine qx 0 r1.v Kp0 ?_
      refine qx 1 (.int .i64 x1) Kp1 ?_
      refine qgo (k := 2) (by kernel_rfl) ?_
      obtain ⟨a1, hv9, h⟩ := h
      refine sx (v := (.pointer (some a1))) Kp2 (want0 rfl) (by kernel_rfl) (fun w' hw' => (x_indexAddr (s := r1) (k := .i64) (i := x1) (by kernel_rfl) (by kernel_rfl) (Try.runUnderlying27 _) (Try.sizeOf132 _) hv9)) ?_
      refine qgo (k := 3) (by kernel_rfl) ?_
      obtain ⟨vKind1, vFrom1, vC1, vText1, vFake1, hv8, hnh, h⟩ := h
      refine sx (v := (.agg #[(.int .i64 vKind1), (.int .i64 vFrom1), (.int .u64 vC1), (.string vText1), (.bool vFake1)])) Kp3 (want0 rfl) (by kernel_rfl) (fun w' hw' => by obtain ⟨H', hs', hb'⟩ := hw'; exact (x_loadA (a := a1) (vs := [(.int .i64 vKind1), (.int .i64 vFrom1), (.int .u64 vC1), (.string vText1), (.bool vFake1)]) (by kernel_rfl) (Try.isAgg132 _) (Try.sizeOf132 _) rfl (row_hst hv8 hnh hs'))) ?_
      clear hnh
      refine qx 4 r1.v Kp4 ?_
      refine qx 5 (.int .i64 k1) Kp5 ?_
      refine qgo (k := 6) (by kernel_rfl) ?_
      obtain ⟨a2, hv7, h⟩ := h
      refine sx (v := (.pointer (some a2))) Kp6 (want0 rfl) (by kernel_rfl) (fun w' hw' => (x_indexAddr (s := r1) (k := .i64) (i := k1) (by kernel_rfl) (by kernel_rfl) (Try.runUnderlying27 _) (Try.sizeOf132 _) hv7)) ?_
      refine qgo (k := 7) (by kernel_rfl) ?_
      obtain ⟨vKind2, vFrom2, vC2, vText2, vFake2, hv6, hnh, h⟩ := h
      refine sx (v := (.agg #[(.int .i64 vKind2), (.int .i64 vFrom2), (.int .u64 vC2), (.string vText2), (.bool vFake2)])) Kp7 (want0 rfl) (by kernel_rfl) (fun w' hw' => by obtain ⟨H', hs', hb'⟩ := hw'; exact (x_loadA (a := a2) (vs := [(.int .i64 vKind2), (.int .i64 vFrom2), (.int .u64 vC2), (.string vText2), (.bool vFake2)]) (by kernel_rfl) (Try.isAgg132 _) (Try.sizeOf132 _) rfl (row_hst hv6 hnh hs'))) ?_
      clear hnh
      refine wpX_via (fun ρ wJ => ∃ p5 : Addr, ∃ HJ : Nat → Prop, Hst w0 Hl2 wl2 HJ wJ ∧ HB HJ wJ [(p5, [(.int .i64 (s_arbiter_fault vKind1 vFrom1 vC1 vText1 vFake1 vKind2 vFrom2 vC2 vText2 vFake2).1), (.int .u64 (s_arbiter_fault vKind1 vFrom1 vC1 vText1 vFake1 vKind2 vFrom2 vC2 vText2 vFake2).2.1), (.int .i64 (s_arbiter_fault vKind1 vFrom1 vC1 vText1 vFake1 vKind2 vFrom2 vC2 vText2 vFake2).2.2.1), (.int .i64 (s_arbiter_fault vKind1 vFrom1 vC1 vText1 vFake1 vKind2 vFrom2 vC2 vText2 vFake2).2.2.2.1), (.int .i64 (s_arbiter_fault vKind1 vFrom1 vC1 vText1 vFake1 vKind2 vFrom2 vC2 vText2 vFake2).2.2.2.2)], 134)] ∧ Has ρ [(5, out2.v), (6, (.map (some p2.block))), (7, r1.v), (8, (.int .i64 x1)), (9, (.int .i64 k1)), (10, (.pointer (some p5))), (16, (.int .i64 (r1.len : Int))), (17, (.int .i64 x1))]) ?_ ?_
      · skip
        refine lgo2 (k := 8) (k' := 9) (by kernel_rfl) ?_ ?_
        · skip
          refine sl_call Kp8 (want0 rfl) (by kernel_rfl) (x_callE (args := #[(.agg #[(.int .i64 vKind1), (.int .i64 vFrom1), (.int .u64 vC1), (.string vText1), (.bool vFake1)]), (.agg #[(.int .i64 vKind2), (.int .i64 vFrom2), (.int .u64 vC2), (.string vText2), (.bool vFake2)])]) Try.call82 (by kernel_rfl)) ((p_arbiter_fault vKind1 vFrom1 vC1 vText1 vFake1 vKind2 vFrom2 vC2 vText2 vFake2 w3).mono ?_)
          rintro e w11 ⟨he, hE⟩
          replace hs := hs.pure hE
          replace hb := hb.pure hE
          refine ⟨(.agg #[(.int .i64 (s_arbiter_fault vKind1 vFrom1 vC1 vText1 vFake1 vKind2 vFrom2 vC2 vText2 vFake2).1), (.int .u64 (s_arbiter_fault vKind1 vFrom1 vC1 vText1 vFake1 vKind2 vFrom2 vC2 vText2 vFake2).2.1), (.int .i64 (s_arbiter_fault vKind1 vFrom1 vC1 vText1 vFake1 vKind2 vFrom2 vC2 vText2 vFake2).2.2.1), (.int .i64 (s_arbiter_fault vKind1 vFrom1 vC1 vText1 vFake1 vKind2 vFrom2 vC2 vText2 vFake2).2.2.2.1), (.int .i64 (s_arbiter_fault vKind1 vFrom1 vC1 vText1 vFake1 vKind2 vFrom2 vC2 vText2 vFake2).2.2.2.2)]), he.trans (by kernel_rfl), .inl (by kernel_rfl), ?_⟩
          clear hE he
          refine lgo (k := 9) (by kernel_rfl) ?_
          refine sl_new (O := (.cells #[(.int .i64 0), (.int .u64 0), (.int .i64 0), (.int .i64 0), (.int .i64 0)] 134)) (fun p => .pointer (some p)) Kp9 (want0 rfl) (by kernel_rfl) (x_alloc (Try.zeroValue134 _) rfl) ?_
          intro p6 w12 hn5
          have hsb := hs.alloc hb hn5
          clear hs hb hn5
          obtain ⟨H4, hs, hb⟩ := hsb
          refine ⟨.inr ⟨_, hs, hb.drop 1⟩, ?_⟩
          refine lgo (k := 10) (by kernel_rfl) ?_
          refine sl_set (pickA (pickS (pickS (pickS (pickS (pickS (pickS (pickS (pickS (pickS (pickS pickZ))))))))))) (want0 rfl) (by kernel_rfl) (x_storeA (a := p6) (vs := [(.int .i64 (s_arbiter_fault vKind1 vFrom1 vC1 vText1 vFake1 vKind2 vFrom2 vC2 vText2 vFake2).1), (.int .u64 (s_arbiter_fault vKind1 vFrom1 vC1 vText1 vFake1 vKind2 vFrom2 vC2 vText2 vFake2).2.1), (.int .i64 (s_arbiter_fault vKind1 vFrom1 vC1 vText1 vFake1 vKind2 vFrom2 vC2 vText2 vFake2).2.2.1), (.int .i64 (s_arbiter_fault vKind1 vFrom1 vC1 vText1 vFake1 vKind2 vFrom2 vC2 vText2 vFake2).2.2.2.1), (.int .i64 (s_arbiter_fault vKind1 vFrom1 vC1 vText1 vFake1 vKind2 vFrom2 vC2 vText2 vFake2).2.2.2.2)]) (by kernel_rfl) (by kernel_rfl) rfl (Try.sizeOf134 _) rfl (hb.canWs0 0 5 (gZ) (by kernel_rfl))) ?_
          intro w13 hn6
          have hsb : Hst w0 Hl2 wl2 H4 w13 ∧ HB H4 w13 [(p6, [(.int .i64 (s_arbiter_fault vKind1 vFrom1 vC1 vText1 vFake1 vKind2 vFrom2 vC2 vText2 vFake2).1), (.int .u64 (s_arbiter_fault vKind1 vFrom1 vC1 vText1 vFake1 vKind2 vFrom2 vC2 vText2 vFake2).2.1), (.int .i64 (s_arbiter_fault vKind1 vFrom1 vC1 vText1 vFake1 vKind2 vFrom2 vC2 vText2 vFake2).2.2.1), (.int .i64 (s_arbiter_fault vKind1 vFrom1 vC1 vText1 vFake1 vKind2 vFrom2 vC2 vText2 vFake2).2.2.2.1), (.int .i64 (s_arbiter_fault vKind1 vFrom1 vC1 vText1 vFake1 vKind2 vFrom2 vC2 vText2 vFake2).2.2.2.2)], 134)] := by
            rw [hn6]
            exact hb.store0 (i := 0) (vs := [(.int .i64 (s_arbiter_fault vKind1 vFrom1 vC1 vText1 vFake1 vKind2 vFrom2 vC2 vText2 vFake2).1), (.int .u64 (s_arbiter_fault vKind1 vFrom1 vC1 vText1 vFake1 vKind2 vFrom2 vC2 vText2 vFake2).2.1), (.int .i64 (s_arbiter_fault vKind1 vFrom1 vC1 vText1 vFake1 vKind2 vFrom2 vC2 vText2 vFake2).2.2.1), (.int .i64 (s_arbiter_fault vKind1 vFrom1 vC1 vText1 vFake1 vKind2 vFrom2 vC2 vText2 vFake2).2.2.2.1), (.int .i64 (s_arbiter_fault vKind1 vFrom1 vC1 vText1 vFake1 vKind2 vFrom2 vC2 vText2 vFake2).2.2.2.2)]) hs (gZ) (by kernel_rfl) (by kernel_rfl)
          clear hs hb hn6
          obtain ⟨hs, hb⟩ := hsb
          refine ⟨.inl (by kernel_rfl), ?_⟩
          refine wpX_nil (by kernel_rfl) ?_
          exact ⟨p6, _, hs, hb, Has.mk (by kernel_rfl)⟩
        · skip
          refine sl_new (O := (.cells #[(.int .i64 0), (.int .u64 0), (.int .i64 0), (.int .i64 0), (.int .i64 0)] 134)) (fun p => .pointer (some p)) Kp9 (want0 rfl) (by kernel_rfl) (x_alloc (Try.zeroValue134 _) rfl) ?_
          intro p7 w14 hn7
          have hsb := hs.alloc hb hn7
          clear hs hb hn7
          obtain ⟨H5, hs, hb⟩ := hsb
          refine ⟨.inr ⟨_, hs, hb.drop 1⟩, ?_⟩
          refine lgo (k := 8) (by kernel_rfl) ?_
          refine sl_call Kp8 (want0 rfl) (by kernel_rfl) (x_callE (args := #[(.agg #[(.int .i64 vKind1), (.int .i64 vFrom1), (.int .u64 vC1), (.string vText1), (.bool vFake1)]), (.agg #[(.int .i64 vKind2), (.int .i64 vFrom2), (.int .u64 vC2), (.string vText2), (.bool vFake2)])]) Try.call82 (by kernel_rfl)) ((p_arbiter_fault vKind1 vFrom1 vC1 vText1 vFake1 vKind2 vFrom2 vC2 vText2 vFake2 w14).mono ?_)
          rintro e w15 ⟨he, hE⟩
          replace hs := hs.pure hE
          replace hb := hb.pure hE
          refine ⟨(.agg #[(.int .i64 (s_arbiter_fault vKind1 vFrom1 vC1 vText1 vFake1 vKind2 vFrom2 vC2 vText2 vFake2).1), (.int .u64 (s_arbiter_fault vKind1 vFrom1 vC1 vText1 vFake1 vKind2 vFrom2 vC2 vText2 vFake2).2.1), (.int .i64 (s_arbiter_fault vKind1 vFrom1 vC1 vText1 vFake1 vKind2 vFrom2 vC2 vText2 vFake2).2.2.1), (.int .i64 (s_arbiter_fault vKind1 vFrom1 vC1 vText1 vFake1 vKind2 vFrom2 vC2 vText2 vFake2).2.2.2.1), (.int .i64 (s_arbiter_fault vKind1 vFrom1 vC1 vText1 vFake1 vKind2 vFrom2 vC2 vText2 vFake2).2.2.2.2)]), he.trans (by kernel_rfl), .inl (by kernel_rfl), ?_⟩
          clear hE he
          refine lgo (k := 10) (by kernel_rfl) ?_
          refine sl_set (pickA (pickS (pickS (pickS (pickS (pickS (pickS (pickS (pickS (pickS (pickS pickZ))))))))))) (want0 rfl) (by kernel_rfl) (x_storeA (a := p7) (vs := [(.int .i64 (s_arbiter_fault vKind1 vFrom1 vC1 vText1 vFake1 vKind2 vFrom2 vC2 vText2 vFake2).1), (.int .u64 (s_arbiter_fault vKind1 vFrom1 vC1 vText1 vFake1 vKind2 vFrom2 vC2 vText2 vFake2).2.1), (.int .i64 (s_arbiter_fault vKind1 vFrom1 vC1 vText1 vFake1 vKind2 vFrom2 vC2 vText2 vFake2).2.2.1), (.int .i64 (s_arbiter_fault vKind1 vFrom1 vC1 vText1 vFake1 vKind2 vFrom2 vC2 vText2 vFake2).2.2.2.1), (.int .i64 (s_arbiter_fault vKind1 vFrom1 vC1 vText1 vFake1 vKind2 vFrom2 vC2 vText2 vFake2).2.2.2.2)]) (by kernel_rfl) (by kernel_rfl) rfl (Try.sizeOf134 _) rfl (hb.canWs0 0 5 (gZ) (by kernel_rfl))) ?_
          intro w16 hn8
          have hsb : Hst w0 Hl2 wl2 H5 w16 ∧ HB H5 w16 [(p7, [(.int .i64 (s_arbiter_fault vKind1 vFrom1 vC1 vText1 vFake1 vKind2 vFrom2 vC2 vText2 vFake2).1), (.int .u64 (s_arbiter_fault vKind1 vFrom1 vC1 vText1 vFake1 vKind2 vFrom2 vC2 vText2 vFake2).2.1), (.int .i64 (s_arbiter_fault vKind1 vFrom1 vC1 vText1 vFake1 vKind2 vFrom2 vC2 vText2 vFake2).2.2.1), (.int .i64 (s_arbiter_fault vKind1 vFrom1 vC1 vText1 vFake1 vKind2 vFrom2 vC2 vText2 vFake2).2.2.2.1), (.int .i64 (s_arbiter_fault vKind1 vFrom1 vC1 vText1 vFake1 vKind2 vFrom2 vC2 vText2 vFake2).2.2.2.2)], 134)] := by
            rw [hn8]
            exact hb.store0 (i := 0) (vs := [(.int .i64 (s_arbiter_fault vKind1 vFrom1 vC1 vText1 vFake1 vKind2 vFrom2 vC2 vText2 vFake2).1), (.int .u64 (s_arbiter_fault vKind1 vFrom1 vC1 vText1 vFake1 vKind2 vFrom2 vC2 vText2 vFake2).2.1), (.int .i64 (s_arbiter_fault vKind1 vFrom1 vC1 vText1 vFake1 vKind2 vFrom2 vC2 vText2 vFake2).2.2.1), (.int .i64 (s_arbiter_fault vKind1 vFrom1 vC1 vText1 vFake1 vKind2 vFrom2 vC2 vText2 vFake2).2.2.2.1), (.int .i64 (s_arbiter_fault vKind1 vFrom1 vC1 vText1 vFake1 vKind2 vFrom2 vC2 vText2 vFake2).2.2.2.2)]) hs (gZ) (by kernel_rfl) (by kernel_rfl)
          clear hs hb hn8
          obtain ⟨hs, hb⟩ := hsb
          refine ⟨.inl (by kernel_rfl), ?_⟩
          refine wpX_nil (by kernel_rfl) ?_
          exact ⟨p7, _, hs, hb, Has.mk (by kernel_rfl)⟩
      · clear hs hb
        rintro ρ w10 ⟨p5, H3, hs, hb, hH⟩
        refine q_has hH ?_
        clear hH
        refine th_n ?_
        refine wpE_seq ?_
        refine wpE_seq ?_
        refine wpE_joinT (fun ρ w => ∃ x2 : Bool, ∃ H : Nat → Prop, Has ρ [(5, out2.v), (6, (.map (some p2.block))), (7, r1.v), (8, (.int .i64 x1)), (9, (.int .i64 k1)), (10, (.pointer (some p5))), (16, (.int .i64 (r1.len : Int))), (17, (.int .i64 x1)), (45, (.bool x2))] ∧ Hst w0 H w H w ∧ HB H w [(p5, [(.int .i64 (s_arbiter_fault vKind1 vFrom1 vC1 vText1 vFake1 vKind2 vFrom2 vC2 vText2 vFake2).1), (.int .u64 (s_arbiter_fault vKind1 vFrom1 vC1 vText1 vFake1 vKind2 vFrom2 vC2 vText2 vFake2).2.1), (.int .i64 (s_arbiter_fault vKind1 vFrom1 vC1 vText1 vFake1 vKind2 vFrom2 vC2 vText2 vFake2).2.2.1), (.int .i64 (s_arbiter_fault vKind1 vFrom1 vC1 vText1 vFake1 vKind2 vFrom2 vC2 vText2 vFake2).2.2.2.1), (.int .i64 (s_arbiter_fault vKind1 vFrom1 vC1 vText1 vFake1 vKind2 vFrom2 vC2 vText2 vFake2).2.2.2.2)], 134)] ∧ m_arbiter_Faults_j3 p2 x1 out2 k1 vKind1 vFrom1 vC1 vText1 vFake1 vKind2 vFrom2 vC2 vText2 vFake2 x2 w0 H w (fun y'0 y'1 H' w' => I2 y'0 y'1 H' w' ∧ mu2 y'0 y'1 w' < mu2 out2 k1 wl2) K) ?_ ?_
        · clear h hs hb
          rintro ρ w ⟨x2, H, hH, hs, hb, h⟩
          unfold m_arbiter_Faults_j3 at h
          refine wpE_has hH ?_
          clear hH
          refine wpE_cond (t := x2) (by kernel_rfl) (fun hc3 => ?_) (fun hc3 => ?_)
          · replace h := h.1 hc3
            refine wpE_exit ?_
            refine th_x ?_
            refine bl_eq ?_
            refine th_n ?_
            refine rg ?_
            refine q0 (.int .i64 k1) ?_
            refine q0 (.int .i64 (IntKind.i64.wrap (k1 + 1))) ?_
            refine q0 (.int .i64 (IntKind.i64.wrap (k1 + 1))) ?_
            refine wpL_nil ?_
            refine th_n ?_
            exact ⟨(out2, (IntKind.i64.wrap (k1 + 1)), H, w), ⟨rfl, Has.mk (by kernel_rfl), hs, hb.drop 1, h.1⟩, h.2⟩
          · replace h := h.2 hc3
            refine wpE_skip ?_
            refine th_n ?_
            refine wpE_seq ?_
            obtain ⟨C2, hC, h⟩ := h
            refine wpE_drawnC (fun x => C2 x ∧ HB H x [(p5, [(.int .i64 (s_arbiter_fault vKind1 vFrom1 vC1 vText1 vFake1 vKind2 vFrom2 vC2 vText2 vFake2).1), (.int .u64 (s_arbiter_fault vKind1 vFrom1 vC1 vText1 vFake1 vKind2 vFrom2 vC2 vText2 vFake2).2.1), (.int .i64 (s_arbiter_fault vKind1 vFrom1 vC1 vText1 vFake1 vKind2 vFrom2 vC2 vText2 vFake2).2.2.1), (.int .i64 (s_arbiter_fault vKind1 vFrom1 vC1 vText1 vFake1 vKind2 vFrom2 vC2 vText2 vFake2).2.2.2.1), (.int .i64 (s_arbiter_fault vKind1 vFrom1 vC1 vText1 vFake1 vKind2 vFrom2 vC2 vText2 vFake2).2.2.2.2)], 134)]) [4, 6] [6] (by kernel_rfl) (by kernel_rfl) (by kernel_rfl) (by kernel_rfl) ⟨hC, hb.drew⟩ ?_
            clear hC
            intro w17 hw17
            replace h := h w17 hw17
            replace hs : Hst w0 H w H w17 := by rw [hw17]; exact hs.drew
            replace hb : HB H w17 [(p5, [(.int .i64 (s_arbiter_fault vKind1 vFrom1 vC1 vText1 vFake1 vKind2 vFrom2 vC2 vText2 vFake2).1), (.int .u64 (s_arbiter_fault vKind1 vFrom1 vC1 vText1 vFake1 vKind2 vFrom2 vC2 vText2 vFake2).2.1), (.int .i64 (s_arbiter_fault vKind1 vFrom1 vC1 vText1 vFake1 vKind2 vFrom2 vC2 vText2 vFake2).2.2.1), (.int .i64 (s_arbiter_fault vKind1 vFrom1 vC1 vText1 vFake1 vKind2 vFrom2 vC2 vText2 vFake2).2.2.2.1), (.int .i64 (s_arbiter_fault vKind1 vFrom1 vC1 vText1 vFake1 vKind2 vFrom2 vC2 vText2 vFake2).2.2.2.2)], 134)] := by rw [hw17]; exact hb.drew
            replace hs := hs.here
            refine qx 0 (.map (some p2.block)) Kp0 ?_
            refine qz 1 (.agg #[(.int .i64 (s_arbiter_fault vKind1 vFrom1 vC1 vText1 vFake1 vKind2 vFrom2 vC2 vText2 vFake2).1), (.int .u64 (s_arbiter_fault vKind1 vFrom1 vC1 vText1 vFake1 vKind2 vFrom2 vC2 vText2 vFake2).2.1), (.int .i64 (s_arbiter_fault vKind1 vFrom1 vC1 vText1 vFake1 vKind2 vFrom2 vC2 vText2 vFake2).2.2.1), (.int .i64 (s_arbiter_fault vKind1 vFrom1 vC1 vText1 vFake1 vKind2 vFrom2 vC2 vText2 vFake2).2.2.2.1), (.int .i64 (s_arbiter_fault vKind1 vFrom1 vC1 vText1 vFake1 vKind2 vFrom2 vC2 vText2 vFake2).2.2.2.2)]) Kp1 (fun w' hw' => (x_loadA (a := p5) (vs := [(.int .i64 (s_arbiter_fault vKind1 vFrom1 vC1 vText1 vFake1 vKind2 vFrom2 vC2 vText2 vFake2).1), (.int .u64 (s_arbiter_fault vKind1 vFrom1 vC1 vText1 vFake1 vKind2 vFrom2 vC2 vText2 vFake2).2.1), (.int .i64 (s_arbiter_fault vKind1 vFrom1 vC1 vText1 vFake1 vKind2 vFrom2 vC2 vText2 vFake2).2.2.1), (.int .i64 (s_arbiter_fault vKind1 vFrom1 vC1 vText1 vFake1 vKind2 vFrom2 vC2 vText2 vFake2).2.2.2.1), (.int .i64 (s_arbiter_fault vKind1 vFrom1 vC1 vText1 vFake1 vKind2 vFrom2 vC2 vText2 vFake2).2.2.2.2)]) (by kernel_rfl) (Try.isAgg134 _) (Try.sizeOf134 _) rfl (hw'.2.row0 0 5 (gZ) (by kernel_rfl)))) ?_
            refine qgo (k := 2) (by kernel_rfl) ?_
            obtain ⟨v1, hv4, h⟩ := h
            refine sx (v := (.int .i64 v1)) Kp2 (want0 rfl) (by kernel_rfl) (fun w' hw' => (x_lookup (by kernel_rfl) (by kernel_rfl) (hv4 w' hw'.1))) ?_
            refine qx 3 (.int .i64 (IntKind.i64.wrap (v1 + 1))) Kp3 ?_
            refine lgo (k := 4) (by kernel_rfl) ?_
            obtain ⟨v2, z1, w18, hv3, hC, hk, h⟩ := h
            refine sl (v := (.tuple #[(.int .i64 v2), (.int .i64 z1)])) Kp4 (want0 rfl) (by kernel_rfl) (x_mapEntry (by kernel_rfl) (by kernel_rfl) hv3) (.inr ⟨hC, hb.kept hk⟩) ?_
            clear hC
            replace hs := hs.again hk
            replace hb := hb.kept hk
            clear hk
            refine qx 5 (.int .i64 z1) Kp5 ?_
            refine lgo (k := 6) (by kernel_rfl) ?_
            obtain ⟨w19, hv2, hk, h⟩ := h
            refine sl_skip Kp6 (want0 rfl) (by kernel_rfl) (x_entryStore (by kernel_rfl) (by kernel_rfl) (by kernel_rfl) hv2) (.inl (by kernel_rfl)) ?_
            replace hs := hs.again hk
            replace hb := hb.kept hk
            clear hk
            refine wpX_nil (by kernel_rfl) ?_
            refine th_n ?_
            refine wpE_seq ?_
            refine rg ?_
            refine q0 (.int .i64 x1) ?_
            refine q0 (.int .i64 k1) ?_
            refine q0 (.pointer (some (p5.add 3))) ?_
            refine st_set (want0 rfl) (x_store (a := (p5.add 3)) (v := (.int .i64 x1)) (by kernel_rfl) (by kernel_rfl) rfl (Try.sizeOf3 _) (hb.canW 0 3 (gZ) (by kernel_rfl))) ?_
            intro w20 hn9
            have hsb : Hst w0 H w19 H w20 ∧ HB H w20 [(p5, [(.int .i64 (s_arbiter_fault vKind1 vFrom1 vC1 vText1 vFake1 vKind2 vFrom2 vC2 vText2 vFake2).1), (.int .u64 (s_arbiter_fault vKind1 vFrom1 vC1 vText1 vFake1 vKind2 vFrom2 vC2 vText2 vFake2).2.1), (.int .i64 (s_arbiter_fault vKind1 vFrom1 vC1 vText1 vFake1 vKind2 vFrom2 vC2 vText2 vFake2).2.2.1), (.int .i64 x1), (.int .i64 (s_arbiter_fault vKind1 vFrom1 vC1 vText1 vFake1 vKind2 vFrom2 vC2 vText2 vFake2).2.2.2.2)], 134)] := by
              rw [hn9]
              exact hb.set (i := 0) 3 (v := (.int .i64 x1)) hs (gZ) (by kernel_rfl)
            clear hs hb hn9
            obtain ⟨hs, hb⟩ := hsb
            refine q0 (.pointer (some (p5.add 4))) ?_
            refine st_set (want0 rfl) (x_store (a := (p5.add 4)) (v := (.int .i64 k1)) (by kernel_rfl) (by kernel_rfl) rfl (Try.sizeOf3 _) (hb.canW 0 4 (gZ) (by kernel_rfl))) ?_
            intro w21 hn10
            have hsb : Hst w0 H w19 H w21 ∧ HB H w21 [(p5, [(.int .i64 (s_arbiter_fault vKind1 vFrom1 vC1 vText1 vFake1 vKind2 vFrom2 vC2 vText2 vFake2).1), (.int .u64 (s_arbiter_fault vKind1 vFrom1 vC1 vText1 vFake1 vKind2 vFrom2 vC2 vText2 vFake2).2.1), (.int .i64 (s_arbiter_fault vKind1 vFrom1 vC1 vText1 vFake1 vKind2 vFrom2 vC2 vText2 vFake2).2.2.1), (.int .i64 x1), (.int .i64 k1)], 134)] := by
              rw [hn10]
              exact hb.set (i := 0) 4 (v := (.int .i64 k1)) hs (gZ) (by kernel_rfl)
            clear hs hb hn10
            obtain ⟨hs, hb⟩ := hsb
            refine wpL_nil ?_
            refine th_n ?_
            refine rg ?_
            refine q0 out2.v ?_
            refine q2 (.agg #[(.int .i64 (s_arbiter_fault vKind1 vFrom1 vC1 vText1 vFake1 vKind2 vFrom2 vC2 vText2 vFake2).1), (.int .u64 (s_arbiter_fault vKind1 vFrom1 vC1 vText1 vFake1 vKind2 vFrom2 vC2 vText2 vFake2).2.1), (.int .i64 (s_arbiter_fault vKind1 vFrom1 vC1 vText1 vFake1 vKind2 vFrom2 vC2 vText2 vFake2).2.2.1), (.int .i64 x1), (.int .i64 k1)]) (x_loadA (a := p5) (vs := [(.int .i64 (s_arbiter_fault vKind1 vFrom1 vC1 vText1 vFake1 vKind2 vFrom2 vC2 vText2 vFake2).1), (.int .u64 (s_arbiter_fault vKind1 vFrom1 vC1 vText1 vFake1 vKind2 vFrom2 vC2 vText2 vFake2).2.1), (.int .i64 (s_arbiter_fault vKind1 vFrom1 vC1 vText1 vFake1 vKind2 vFrom2 vC2 vText2 vFake2).2.2.1), (.int .i64 x1), (.int .i64 k1)]) (by kernel_rfl) (Try.isAgg134 _) (Try.sizeOf134 _) rfl (hb.row0 0 5 (gZ) (by kernel_rfl))) ?_
            replace h := h w21 hs
            replace hs := hs.here
            refine st_new (O := (.cells #[(.int .i64 (s_arbiter_fault vKind1 vFrom1 vC1 vText1 vFake1 vKind2 vFrom2 vC2 vText2 vFake2).1), (.int .u64 (s_arbiter_fault vKind1 vFrom1 vC1 vText1 vFake1 vKind2 vFrom2 vC2 vText2 vFake2).2.1), (.int .i64 (s_arbiter_fault vKind1 vFrom1 vC1 vText1 vFake1 vKind2 vFrom2 vC2 vText2 vFake2).2.2.1), (.int .i64 x1), (.int .i64 k1)] 134)) (fun p => (Sl.mk (some p) 1 1).v) (want0 rfl) (x_buildSlice (vs := #[(0, (.agg #[(.int .i64 (s_arbiter_fault vKind1 vFrom1 vC1 vText1 vFake1 vKind2 vFrom2 vC2 vText2 vFake2).1), (.int .u64 (s_arbiter_fault vKind1 vFrom1 vC1 vText1 vFake1 vKind2 vFrom2 vC2 vText2 vFake2).2.1), (.int .i64 (s_arbiter_fault vKind1 vFrom1 vC1 vText1 vFake1 vKind2 vFrom2 vC2 vText2 vFake2).2.2.1), (.int .i64 x1), (.int .i64 k1)]))]) (by kernel_rfl) (by kernel_rfl)) ?_
            intro p8 w22 hn11
            replace h := h p8 w22 hn11
            replace hs := hs.again (Ext.new (F := None) hn11).keptP
            replace hb := hb.kept (Ext.new (F := None) hn11).keptP
            obtain ⟨s1, w23, hv1, hk, h⟩ := h
            refine st (v := s1.v) (want0 rfl) (x_builtin (args := #[out2.v, (Sl.mk (some p8) 1 1).v]) (by kernel_rfl) (fun _ => rfl) hv1) ?_
            replace hs := hs.again hk
            replace hb := hb.kept hk
            clear hk
            refine q0 s1.v ?_
            refine wpL_nil ?_
            refine bl_n ?_
            refine th_n ?_
            refine rg ?_
            refine q0 (.int .i64 k1) ?_
            refine q0 (.int .i64 (IntKind.i64.wrap (k1 + 1))) ?_
            refine q0 (.int .i64 (IntKind.i64.wrap (k1 + 1))) ?_
            refine wpL_nil ?_
            refine th_n ?_
            exact ⟨(s1, (IntKind.i64.wrap (k1 + 1)), H, w23), ⟨rfl, Has.mk (by kernel_rfl), hs, hb.drop 1, h.1⟩, h.2⟩
        · skip
          refine rg ?_
          refine q0 (.pointer (some (p5.add 2))) ?_
          refine q2 (.int .i64 (s_arbiter_fault vKind1 vFrom1 vC1 vText1 vFake1 vKind2 vFrom2 vC2 vText2 vFake2).2.2.1) (x_load (a := (p5.add 2)) (by kernel_rfl) (Try.isAgg3 _) (hb.cell 0 2 (gZ) (by kernel_rfl))) ?_
          refine q0 (.bool (((s_arbiter_fault vKind1 vFrom1 vC1 vText1 vFake1 vKind2 vFrom2 vC2 vText2 vFake2).2.2.1 : Int) == 0)) ?_
          refine q0 (.bool (((s_arbiter_fault vKind1 vFrom1 vC1 vText1 vFake1 vKind2 vFrom2 vC2 vText2 vFake2).2.2.1 : Int) == 0)) ?_
          rcases Bool.eq_false_or_eq_true (((s_arbiter_fault vKind1 vFrom1 vC1 vText1 vFake1 vKind2 vFrom2 vC2 vText2 vFake2).2.2.1 : Int) == 0) with hg1 | hg1
          · replace h := h.1 hg1
            refine st_not (unwant rfl (yD 40 hg1) rfl) ?_
            refine st_not (unwant rfl (yD 40 hg1) rfl) ?_
            refine st_not (unwant rfl (yD 40 hg1) rfl) ?_
            refine st_not (unwant rfl (yD 40 hg1) rfl) ?_
            refine q2 (.bool true) (x_pickT (b := (((s_arbiter_fault vKind1 vFrom1 vC1 vText1 vFake1 vKind2 vFrom2 vC2 vText2 vFake2).2.2.1 : Int) == 0)) (by kernel_rfl) hg1 (by kernel_rfl)) ?_
            refine wpL_nil ?_
            replace h := h H3 w10 hs
            replace hs := hs.here
            refine th_n ?_
            exact ⟨true, H3, Has.mk (by kernel_rfl), hs, hb, h⟩
          · replace h := h.2 hg1
            refine q1 (.map (some p2.block)) (want1 rfl (yD 40 hg1)) ?_
            refine stp (v := (.agg #[(.int .i64 (s_arbiter_fault vKind1 vFrom1 vC1 vText1 vFake1 vKind2 vFrom2 vC2 vText2 vFake2).1), (.int .u64 (s_arbiter_fault vKind1 vFrom1 vC1 vText1 vFake1 vKind2 vFrom2 vC2 vText2 vFake2).2.1), (.int .i64 (s_arbiter_fault vKind1 vFrom1 vC1 vText1 vFake1 vKind2 vFrom2 vC2 vText2 vFake2).2.2.1), (.int .i64 (s_arbiter_fault vKind1 vFrom1 vC1 vText1 vFake1 vKind2 vFrom2 vC2 vText2 vFake2).2.2.2.1), (.int .i64 (s_arbiter_fault vKind1 vFrom1 vC1 vText1 vFake1 vKind2 vFrom2 vC2 vText2 vFake2).2.2.2.2)])) (want1 rfl (yD 40 hg1)) (x_loadA (a := p5) (vs := [(.int .i64 (s_arbiter_fault vKind1 vFrom1 vC1 vText1 vFake1 vKind2 vFrom2 vC2 vText2 vFake2).1), (.int .u64 (s_arbiter_fault vKind1 vFrom1 vC1 vText1 vFake1 vKind2 vFrom2 vC2 vText2 vFake2).2.1), (.int .i64 (s_arbiter_fault vKind1 vFrom1 vC1 vText1 vFake1 vKind2 vFrom2 vC2 vText2 vFake2).2.2.1), (.int .i64 (s_arbiter_fault vKind1 vFrom1 vC1 vText1 vFake1 vKind2 vFrom2 vC2 vText2 vFake2).2.2.2.1), (.int .i64 (s_arbiter_fault vKind1 vFrom1 vC1 vText1 vFake1 vKind2 vFrom2 vC2 vText2 vFake2).2.2.2.2)]) (by kernel_rfl) (Try.isAgg134 _) (Try.sizeOf134 _) rfl (hb.row0 0 5 (gZ) (by kernel_rfl))) ?_
            replace h := h H3 w10 hs
            replace hs := hs.here
            obtain ⟨v3, hv5, h⟩ := h
            refine stp (v := (.int .i64 v3)) (want1 rfl (yD 40 hg1)) (x_lookup (by kernel_rfl) (by kernel_rfl) hv5) ?_
            refine q1 (.bool (decide (v3 > 0))) (want1 rfl (yD 40 hg1)) ?_
            refine q2 (.bool (decide (v3 > 0))) (x_pickF (b := (((s_arbiter_fault vKind1 vFrom1 vC1 vText1 vFake1 vKind2 vFrom2 vC2 vText2 vFake2).2.2.1 : Int) == 0)) (by kernel_rfl) hg1 (by kernel_rfl)) ?_
            refine wpL_nil ?_
            refine th_n ?_
            exact ⟨(decide (v3 > 0)), H3, Has.mk (by kernel_rfl), hs, hb, h⟩
    · replace h := h.2 hc2
      refine wpE_exit ?_
      refine th_x ?_
      refine th_x ?_
      refine bl_eq ?_
      refine bl_n ?_
      refine th_n ?_
      refine rg ?_
      refine q0 (.int .i64 (IntKind.i64.wrap (x1 + 1))) ?_
      refine q0 (.int .i64 (IntKind.i64.wrap (x1 + 1))) ?_
      refine wpL_nil ?_
      refine th_n ?_
      exact ⟨(out2, (IntKind.i64.wrap (x1 + 1)), Hl2, wl2), ⟨rfl, Has.mk (by kernel_rfl), hs, hb, h.1⟩, h.2⟩
  · replace h := h.2 hc1
    refine wpE_exit ?_
    refine th_x ?_
    refine th_x ?_
    refine bl_eq ?_
    refine th_n ?_
    refine wpE_seq ?_
    refine rg ?_
    refine q0 out1.v ?_
    refine q0 out1.v ?_
    refine wpL_nil ?_
    refine th_n ?_
    refine wpE_ret ?_
    refine res1 (.inl rfl) Try.results22 (v := out1.v) (by kernel_rfl) ?_
    exact ⟨out1, rfl, h⟩

def m_arbiter_Judge_l2 (cWho1 : Int) (cC1 : Int) (cText1 : ByteArray) (x1 : Int) (r2 : Sl) (x2 : Int) (xBound2 : Bool) (xWhy2 : Int) (xBy2 : Int) (w0 : World) (Hl2 : Nat → Prop) (wl2 : World) (Kc1 : Int → Bool → Int → Int → (Nat → Prop) → World → Prop) (Kc2 : Int → Bool → Int → Int → (Nat → Prop) → World → Prop) (K : Bool → Int → Int → World → Prop) : Prop :=
  Br (decide (x2 < (r2.len : Int)))
    (∃ a2 : Addr, At r2 x2 5 a2 ∧
    ∃ vWho1 : Int, ∃ vC2 : Int, ∃ vText2 : ByteArray, ∃ vWhy1 : Int, ∃ vBy1 : Int, Row wl2 a2 [(.int .i64 vWho1), (.int .u64 vC2), (.string vText2), (.int .i64 vWhy1), (.int .i64 vBy1)] ∧
    Br ((((vWho1 : Int) == cWho1) && ((vC2 : Int) == cC1)) && (decide (vText2 = cText1)))
      (∀ (H6 : Nat → Prop) (w12 : World), Hst w0 Hl2 wl2 H6 w12 →
      K true vWhy1 x1 w12)
      (∀ (H6 : Nat → Prop) (w10 : World), Hst w0 Hl2 wl2 H6 w10 →
      Kc2 (IntKind.i64.wrap (x2 + 1)) xBound2 xWhy2 xBy2 H6 w10))
    (Kc1 (IntKind.i64.wrap (x1 + 1)) xBound2 xWhy2 xBy2 Hl2 wl2)
def m_arbiter_Judge_l1 (cWho1 : Int) (cC1 : Int) (cText1 : ByteArray) (r1 : Sl) (x1 : Int) (xBound1 : Bool) (xWhy1 : Int) (xBy1 : Int) (w0 : World) (Hl1 : Nat → Prop) (wl1 : World) (Kc1 : Int → Bool → Int → Int → (Nat → Prop) → World → Prop) (K : Bool → Int → Int → World → Prop) : Prop :=
  Br (decide (x1 < (r1.len : Int)))
    (∃ a1 : Addr, At r1 x1 5 a1 ∧
    ∃ vKind1 : Int, ∃ vFrom1 : Int, ∃ vC1 : Int, ∃ vText1 : ByteArray, ∃ vFake1 : Bool, Row wl1 a1 [(.int .i64 vKind1), (.int .i64 vFrom1), (.int .u64 vC1), (.string vText1), (.bool vFake1)] ∧
    ∀ (H3 : Nat → Prop) (w5 : World), Hst w0 Hl1 wl1 H3 w5 →
    Calls Try.prog 80 #[(.agg #[(.int .i64 vKind1), (.int .i64 vFrom1), (.int .u64 vC1), (.string vText1), (.bool vFake1)]), (.int .i64 x1)] w5 (fun e w6 => ∃ r2 : Sl, e = .returned r2.v ∧ 
      Kept H3 w5 w6 ∧
      ∃ (I2 : Int → Bool → Int → Int → (Nat → Prop) → World → Prop) (mu2 : Int → Bool → Int → Int → World → Nat), I2 0 xBound1 xWhy1 xBy1 H3 w6 ∧
        ∀ (x2 : Int) (xBound2 : Bool) (xWhy2 : Int) (xBy2 : Int) (Hl2 : Nat → Prop) (wl2 : World), Hst w0 Hl2 wl2 Hl2 wl2 → I2 x2 xBound2 xWhy2 xBy2 Hl2 wl2 → m_arbiter_Judge_l2 cWho1 cC1 cText1 x1 r2 x2 xBound2 xWhy2 xBy2 w0 Hl2 wl2 Kc1 (fun y'0 y'1 y'2 y'3 H' w' => I2 y'0 y'1 y'2 y'3 H' w' ∧ mu2 y'0 y'1 y'2 y'3 w' < mu2 x2 xBound2 xWhy2 xBy2 wl2) K))
    (∀ (w13 : World), Hst w0 Hl1 wl1 Hl1 w13 →
    K false 0 (-1) w13)
def m_arbiter_Judge (p1 : Option Addr) (shown1 : Sl) (cWho1 : Int) (cC1 : Int) (cText1 : ByteArray) (w0 : World) (K : Bool → Int → Int → World → Prop) : Prop :=
  ∀ (H2 : Nat → Prop) (w2 : World), Hst w0 None w0 H2 w2 →
  Calls Try.prog 79 #[(.pointer p1), shown1.v] w2 (fun e w3 => ∃ r1 : Sl, e = .returned r1.v ∧ 
    Kept H2 w2 w3 ∧
    ∃ (I1 : Int → Bool → Int → Int → (Nat → Prop) → World → Prop) (mu1 : Int → Bool → Int → Int → World → Nat), I1 0 false 0 0 H2 w3 ∧
      ∀ (x1 : Int) (xBound1 : Bool) (xWhy1 : Int) (xBy1 : Int) (Hl1 : Nat → Prop) (wl1 : World), Hst w0 Hl1 wl1 Hl1 wl1 → I1 x1 xBound1 xWhy1 xBy1 Hl1 wl1 → m_arbiter_Judge_l1 cWho1 cC1 cText1 r1 x1 xBound1 xWhy1 xBy1 w0 Hl1 wl1 (fun y'0 y'1 y'2 y'3 H' w' => I1 y'0 y'1 y'2 y'3 H' w' ∧ mu1 y'0 y'1 y'2 y'3 w' < mu1 x1 xBound1 xWhy1 xBy1 wl1) K)
set_option maxRecDepth 100000 in
set_option maxHeartbeats 4000000 in
theorem w_arbiter_Judge (p1 : Option Addr) (shown1 : Sl) (cWho1 : Int) (cC1 : Int) (cText1 : ByteArray) (w0 : World) (K : Bool → Int → Int → World → Prop) (h : m_arbiter_Judge p1 shown1 cWho1 cC1 cText1 w0 K) :
    Calls Try.prog 24 #[(.pointer p1), shown1.v, (.agg #[(.int .i64 cWho1), (.int .u64 cC1), (.string cText1)])] w0 (fun e w' => ∃ rBound1 : Bool, ∃ rWhy1 : Int, ∃ rBy1 : Int, e = .returned (.agg #[(.bool rBound1), (.int .i64 rWhy1), (.int .i64 rBy1)]) ∧ K rBound1 rWhy1 rBy1 w') := by
  unfold m_arbiter_Judge at h
  refine calls_of_wpE (args := [(.pointer p1), shown1.v, (.agg #[(.int .i64 cWho1), (.int .u64 cC1), (.string cText1)])]) Try.func24 rfl Try.ntmps24 (Nat.le_of_ble_eq_true rfl) ?_
  have hs := Hst.start w0
  have hb := HB.nil None w0
  refine wpE_seq ?_
  refine rg ?_
  refine st_new (O := (.cells #[(.int .i64 cWho1), (.int .u64 cC1), (.string cText1)] 40)) (fun p => .pointer (some p)) (want0 rfl) (x_box (cs := #[(.int .i64 cWho1), (.int .u64 cC1), (.string cText1)]) (by kernel_rfl)) ?_
  intro p2 w1 hn1
  have hsb := hs.alloc hb hn1
  clear hs hb hn1
  obtain ⟨H1, hs, hb⟩ := hsb
  refine st_new (O := (.cells #[(.bool false), (.int .i64 0), (.int .i64 0)] 43)) (fun p => .pointer (some p)) (want0 rfl) (x_alloc (Try.zeroValue43 _) rfl) ?_
  intro p3 w2 hn2
  have hsb := hs.alloc hb hn2
  clear hs hb hn2
  obtain ⟨H2, hs, hb⟩ := hsb
  refine wpL_nil ?_
  refine th_n ?_
  refine wpE_seq ?_
  refine wpE_seq ?_
  refine rg ?_
  refine q0 (.pointer p1) ?_
  refine q0 shown1.v ?_
  replace h := h H2 w2 hs
  replace hs := hs.here
  refine st_call (want0 rfl) (x_callE (args := #[(.pointer p1), shown1.v]) Try.call79 (by kernel_rfl)) (h.mono ?_)
  clear h
  rintro e w3 ⟨r1, rfl, hk, h⟩
  refine ⟨_, rfl, ?_⟩
  replace hs := hs.again hk
  replace hb := hb.kept hk
  clear hk
  refine q0 (.int .i64 (r1.len : Int)) ?_
  refine q0 (.int .i64 0) ?_
  refine wpL_nil ?_
  refine th_n ?_
  refine wpE_block ?_
  obtain ⟨I1, mu1, h0, hr⟩ := h
  refine wpE_loop (σ := Int × Bool × Int × Int × (Nat → Prop) × World) (fun s ρ w => w = s.2.2.2.2.2 ∧ Has ρ [(5, (.pointer (some p2))), (6, (.pointer (some p3))), (13, r1.v), (14, (.int .i64 (r1.len : Int))), (15, (.int .i64 s.1))] ∧ Hst w0 s.2.2.2.2.1 w s.2.2.2.2.1 w ∧ HB s.2.2.2.2.1 w [(p3, [(.bool s.2.1), (.int .i64 s.2.2.1), (.int .i64 s.2.2.2.1)], 43), (p2, [(.int .i64 cWho1), (.int .u64 cC1), (.string cText1)], 40)] ∧ I1 s.1 s.2.1 s.2.2.1 s.2.2.2.1 s.2.2.2.2.1 s.2.2.2.2.2) (fun s => mu1 s.1 s.2.1 s.2.2.1 s.2.2.2.1 s.2.2.2.2.2) (0, false, 0, 0, H2, w3) ⟨rfl, Has.mk (by kernel_rfl), hs, hb, h0⟩ ?_
  clear hs hb
  rintro ⟨x1, xBound1, xWhy1, xBy1, Hl1, wl1⟩ ρ w ⟨hw, hH, hs, hb, hI⟩
  obtain rfl : wl1 = w := (show w = wl1 from hw).symm
  replace hH : Has ρ [(5, (.pointer (some p2))), (6, (.pointer (some p3))), (13, r1.v), (14, (.int .i64 (r1.len : Int))), (15, (.int .i64 x1))] := hH
  replace hs : Hst w0 Hl1 wl1 Hl1 wl1 := hs
  replace hb : HB Hl1 wl1 [(p3, [(.bool xBound1), (.int .i64 xWhy1), (.int .i64 xBy1)], 43), (p2, [(.int .i64 cWho1), (.int .u64 cC1), (.string cText1)], 40)] := hb
  have h := hr x1 xBound1 xWhy1 xBy1 Hl1 wl1 hs hI
  clear hr h0
  unfold m_arbiter_Judge_l1 at h
  refine wpE_has hH ?_
  clear hH hI
  refine wpE_seq ?_
  refine rg ?_
  refine q0 (.bool (decide (x1 < (r1.len : Int)))) ?_
  refine wpL_nil ?_
  refine th_n ?_
  refine wpE_seq ?_
  refine wpE_cond (t := (decide (x1 < (r1.len : Int)))) (by kernel_rfl) (fun hc1 => ?_) (fun hc1 => ?_)
  · replace h := h.1 hc1
    refine wpE_skip ?_
    refine th_n ?_
    refine wpE_seq ?_
    refine wpE_block ?_
    refine wpE_seq ?_
    refine rg ?_
    refine q0 (.int .i64 x1) ?_
    obtain ⟨a1, hv4, h⟩ := h
    refine q2 (.pointer (some a1)) (x_indexAddr (s := r1) (k := .i64) (i := x1) (by kernel_rfl) (by kernel_rfl) (Try.runUnderlying27 _) (Try.sizeOf132 _) hv4) ?_
    obtain ⟨vKind1, vFrom1, vC1, vText1, vFake1, hv3, h⟩ := h
    refine q2 (.agg #[(.int .i64 vKind1), (.int .i64 vFrom1), (.int .u64 vC1), (.string vText1), (.bool vFake1)]) (x_loadA (a := a1) (vs := [(.int .i64 vKind1), (.int .i64 vFrom1), (.int .u64 vC1), (.string vText1), (.bool vFake1)]) (by kernel_rfl) (Try.isAgg132 _) (Try.sizeOf132 _) rfl hv3) ?_
    refine st_new (O := (.cells #[(.int .i64 0), (.int .i64 0), (.int .u64 0), (.string (⟨#[]⟩ : ByteArray)), (.bool false)] 132)) (fun p => .pointer (some p)) (want0 rfl) (x_alloc (Try.zeroValue132 _) rfl) ?_
    intro p4 w4 hn3
    have hsb := hs.alloc hb hn3
    clear hs hb hn3
    obtain ⟨H3, hs, hb⟩ := hsb
    refine q0 (.int .i64 x1) ?_
    refine st_set (want0 rfl) (x_storeA (a := p4) (vs := [(.int .i64 vKind1), (.int .i64 vFrom1), (.int .u64 vC1), (.string vText1), (.bool vFake1)]) (by kernel_rfl) (by kernel_rfl) rfl (Try.sizeOf132 _) rfl (hb.canWs0 0 5 (gZ) (by kernel_rfl))) ?_
    intro w5 hn4
    have hsb : Hst w0 Hl1 wl1 H3 w5 ∧ HB H3 w5 [(p4, [(.int .i64 vKind1), (.int .i64 vFrom1), (.int .u64 vC1), (.string vText1), (.bool vFake1)], 132), (p3, [(.bool xBound1), (.int .i64 xWhy1), (.int .i64 xBy1)], 43), (p2, [(.int .i64 cWho1), (.int .u64 cC1), (.string cText1)], 40)] := by
      rw [hn4]
      exact hb.store0 (i := 0) (vs := [(.int .i64 vKind1), (.int .i64 vFrom1), (.int .u64 vC1), (.string vText1), (.bool vFake1)]) hs (gZ) (by kernel_rfl) (by kernel_rfl)
    clear hs hb hn4
    obtain ⟨hs, hb⟩ := hsb
    refine wpL_nil ?_
    refine th_n ?_
    refine wpE_seq ?_
    refine rg ?_
    refine q2 (.agg #[(.int .i64 vKind1), (.int .i64 vFrom1), (.int .u64 vC1), (.string vText1), (.bool vFake1)]) (x_loadA (a := p4) (vs := [(.int .i64 vKind1), (.int .i64 vFrom1), (.int .u64 vC1), (.string vText1), (.bool vFake1)]) (by kernel_rfl) (Try.isAgg132 _) (Try.sizeOf132 _) rfl (hb.row0 0 5 (gZ) (by kernel_rfl))) ?_
    refine q0 (.int .i64 x1) ?_
    replace h := h H3 w5 hs
    replace hs := hs.here
    refine st_call (want0 rfl) (x_callE (args := #[(.agg #[(.int .i64 vKind1), (.int .i64 vFrom1), (.int .u64 vC1), (.string vText1), (.bool vFake1)]), (.int .i64 x1)]) Try.call80 (by kernel_rfl)) (h.mono ?_)
    clear h
    rintro e w6 ⟨r2, rfl, hk, h⟩
    refine ⟨_, rfl, ?_⟩
    replace hs := hs.again hk
    replace hb := hb.kept hk
    clear hk
    refine q0 (.int .i64 (r2.len : Int)) ?_
    refine q0 (.int .i64 0) ?_
    refine wpL_nil ?_
    refine th_n ?_
    refine wpE_block ?_
    obtain ⟨I2, mu2, h0, hr⟩ := h
    refine wpE_loop (σ := Int × Bool × Int × Int × (Nat → Prop) × World) (fun s ρ w => w = s.2.2.2.2.2 ∧ Has ρ [(5, (.pointer (some p2))), (6, (.pointer (some p3))), (7, (.int .i64 x1)), (13, r1.v), (14, (.int .i64 (r1.len : Int))), (15, (.int .i64 x1)), (22, r2.v), (23, (.int .i64 (r2.len : Int))), (24, (.int .i64 s.1))] ∧ Hst w0 s.2.2.2.2.1 w s.2.2.2.2.1 w ∧ HB s.2.2.2.2.1 w [(p4, [(.int .i64 vKind1), (.int .i64 vFrom1), (.int .u64 vC1), (.string vText1), (.bool vFake1)], 132), (p3, [(.bool s.2.1), (.int .i64 s.2.2.1), (.int .i64 s.2.2.2.1)], 43), (p2, [(.int .i64 cWho1), (.int .u64 cC1), (.string cText1)], 40)] ∧ I2 s.1 s.2.1 s.2.2.1 s.2.2.2.1 s.2.2.2.2.1 s.2.2.2.2.2) (fun s => mu2 s.1 s.2.1 s.2.2.1 s.2.2.2.1 s.2.2.2.2.2) (0, xBound1, xWhy1, xBy1, H3, w6) ⟨rfl, Has.mk (by kernel_rfl), hs, hb, h0⟩ ?_
    clear hs hb
    rintro ⟨x2, xBound2, xWhy2, xBy2, Hl2, wl2⟩ ρ w ⟨hw, hH, hs, hb, hI⟩
    obtain rfl : wl2 = w := (show w = wl2 from hw).symm
    replace hH : Has ρ [(5, (.pointer (some p2))), (6, (.pointer (some p3))), (7, (.int .i64 x1)), (13, r1.v), (14, (.int .i64 (r1.len : Int))), (15, (.int .i64 x1)), (22, r2.v), (23, (.int .i64 (r2.len : Int))), (24, (.int .i64 x2))] := hH
    replace hs : Hst w0 Hl2 wl2 Hl2 wl2 := hs
    replace hb : HB Hl2 wl2 [(p4, [(.int .i64 vKind1), (.int .i64 vFrom1), (.int .u64 vC1), (.string vText1), (.bool vFake1)], 132), (p3, [(.bool xBound2), (.int .i64 xWhy2), (.int .i64 xBy2)], 43), (p2, [(.int .i64 cWho1), (.int .u64 cC1), (.string cText1)], 40)] := hb
    have h := hr x2 xBound2 xWhy2 xBy2 Hl2 wl2 hs hI
    clear hr h0
    unfold m_arbiter_Judge_l2 at h
    refine wpE_has hH ?_
    clear hH hI
    refine wpE_seq ?_
    refine rg ?_
    refine q0 (.bool (decide (x2 < (r2.len : Int)))) ?_
    refine wpL_nil ?_
    refine th_n ?_
    refine wpE_seq ?_
    refine wpE_cond (t := (decide (x2 < (r2.len : Int)))) (by kernel_rfl) (fun hc2 => ?_) (fun hc2 => ?_)
    · replace h := h.1 hc2
      refine wpE_skip ?_
      refine th_n ?_
      refine wpE_seq ?_
      refine wpE_block ?_
      refine wpE_seq ?_
      refine rg ?_
      obtain ⟨a2, hv2, h⟩ := h
      refine q2 (.pointer (some a2)) (x_indexAddr (s := r2) (k := .i64) (i := x2) (by kernel_rfl) (by kernel_rfl) (Try.runUnderlying31 _) (Try.sizeOf46 _) hv2) ?_
      obtain ⟨vWho1, vC2, vText2, vWhy1, vBy1, hv1, h⟩ := h
      refine q2 (.agg #[(.int .i64 vWho1), (.int .u64 vC2), (.string vText2), (.int .i64 vWhy1), (.int .i64 vBy1)]) (x_loadA (a := a2) (vs := [(.int .i64 vWho1), (.int .u64 vC2), (.string vText2), (.int .i64 vWhy1), (.int .i64 vBy1)]) (by kernel_rfl) (Try.isAgg46 _) (Try.sizeOf46 _) rfl hv1) ?_
      refine st_new (O := (.cells #[(.int .i64 0), (.int .u64 0), (.string (⟨#[]⟩ : ByteArray)), (.int .i64 0), (.int .i64 0)] 46)) (fun p => .pointer (some p)) (want0 rfl) (x_alloc (Try.zeroValue46 _) rfl) ?_
      intro p5 w7 hn5
      have hsb := hs.alloc hb hn5
      clear hs hb hn5
      obtain ⟨H4, hs, hb⟩ := hsb
      refine st_set (want0 rfl) (x_storeA (a := p5) (vs := [(.int .i64 vWho1), (.int .u64 vC2), (.string vText2), (.int .i64 vWhy1), (.int .i64 vBy1)]) (by kernel_rfl) (by kernel_rfl) rfl (Try.sizeOf46 _) rfl (hb.canWs0 0 5 (gZ) (by kernel_rfl))) ?_
      intro w8 hn6
      have hsb : Hst w0 Hl2 wl2 H4 w8 ∧ HB H4 w8 [(p5, [(.int .i64 vWho1), (.int .u64 vC2), (.string vText2), (.int .i64 vWhy1), (.int .i64 vBy1)], 46), (p4, [(.int .i64 vKind1), (.int .i64 vFrom1), (.int .u64 vC1), (.string vText1), (.bool vFake1)], 132), (p3, [(.bool xBound2), (.int .i64 xWhy2), (.int .i64 xBy2)], 43), (p2, [(.int .i64 cWho1), (.int .u64 cC1), (.string cText1)], 40)] := by
        rw [hn6]
        exact hb.store0 (i := 0) (vs := [(.int .i64 vWho1), (.int .u64 vC2), (.string vText2), (.int .i64 vWhy1), (.int .i64 vBy1)]) hs (gZ) (by kernel_rfl) (by kernel_rfl)
      clear hs hb hn6
      obtain ⟨hs, hb⟩ := hsb
      refine wpL_nil ?_
      refine th_n ?_
      refine wpE_seq ?_
      refine wpE_via (fun ρ wJ => ∃ b2'0 : Bool, ∃ HJ : Nat → Prop, ((((vWho1 : Int) == cWho1) && ((vC2 : Int) == cC1)) = b2'0) ∧ Hst w0 Hl2 wl2 HJ wJ ∧ HB HJ wJ [(p5, [(.int .i64 vWho1), (.int .u64 vC2), (.string vText2), (.int .i64 vWhy1), (.int .i64 vBy1)], 46), (p4, [(.int .i64 vKind1), (.int .i64 vFrom1), (.int .u64 vC1), (.string vText1), (.bool vFake1)], 132), (p3, [(.bool xBound2), (.int .i64 xWhy2), (.int .i64 xBy2)], 43), (p2, [(.int .i64 cWho1), (.int .u64 cC1), (.string cText1)], 40)] ∧ Has ρ [(5, (.pointer (some p2))), (6, (.pointer (some p3))), (7, (.int .i64 x1)), (10, (.pointer (some p5))), (13, r1.v), (14, (.int .i64 (r1.len : Int))), (15, (.int .i64 x1)), (22, r2.v), (23, (.int .i64 (r2.len : Int))), (24, (.int .i64 x2)), (46, (.bool (b2'0 && (decide (vText2 = cText1)))))]) ?_ ?_
      · skip
        refine rg ?_
        refine q0 (.pointer (some p5)) ?_
        refine q2 (.int .i64 vWho1) (x_load (a := p5) (by kernel_rfl) (Try.isAgg3 _) (hb.cell0 0 (gZ) (by kernel_rfl))) ?_
        refine q0 (.pointer (some p2)) ?_
        refine q2 (.int .i64 cWho1) (x_load (a := p2) (by kernel_rfl) (Try.isAgg3 _) (hb.cell0 3 (gS (gS (gS (gZ)))) (by kernel_rfl))) ?_
        refine q0 (.bool ((vWho1 : Int) == cWho1)) ?_
        refine q0 (.bool ((vWho1 : Int) == cWho1)) ?_
        refine wpL_join 6 (fun ρ wJ => ∃ b3'0 : Bool, ∃ HJ : Nat → Prop, (((vWho1 : Int) == cWho1) = b3'0) ∧ Hst w0 Hl2 wl2 HJ wJ ∧ HB HJ wJ [(p5, [(.int .i64 vWho1), (.int .u64 vC2), (.string vText2), (.int .i64 vWhy1), (.int .i64 vBy1)], 46), (p4, [(.int .i64 vKind1), (.int .i64 vFrom1), (.int .u64 vC1), (.string vText1), (.bool vFake1)], 132), (p3, [(.bool xBound2), (.int .i64 xWhy2), (.int .i64 xBy2)], 43), (p2, [(.int .i64 cWho1), (.int .u64 cC1), (.string cText1)], 40)] ∧ Has ρ [(5, (.pointer (some p2))), (6, (.pointer (some p3))), (7, (.int .i64 x1)), (10, (.pointer (some p5))), (13, r1.v), (14, (.int .i64 (r1.len : Int))), (15, (.int .i64 x1)), (22, r2.v), (23, (.int .i64 (r2.len : Int))), (24, (.int .i64 x2)), (39, (.bool (b3'0 && ((vC2 : Int) == cC1))))]) ?_ ?_
        · clear hs hb
          rintro ρ w11 ⟨b3'0, H7, he0, hs, hb, hH⟩
          subst he0
          refine wpL_has hH ?_
          clear hH
          refine q0 (.bool (((vWho1 : Int) == cWho1) && ((vC2 : Int) == cC1))) ?_
          rcases Bool.eq_false_or_eq_true (((vWho1 : Int) == cWho1) && ((vC2 : Int) == cC1)) with hg6 | hg6
          · skip
            refine q1 (.pointer (some (p5.add 2))) (want1 rfl (yD 40 hg6)) ?_
            refine stp (v := (.string vText2)) (want1 rfl (yD 40 hg6)) (x_load (a := (p5.add 2)) (by kernel_rfl) (Try.isAgg9 _) (hb.cell 0 2 (gZ) (by kernel_rfl))) ?_
            refine q1 (.pointer (some (p2.add 2))) (want1 rfl (yD 40 hg6)) ?_
            refine stp (v := (.string cText1)) (want1 rfl (yD 40 hg6)) (x_load (a := (p2.add 2)) (by kernel_rfl) (Try.isAgg9 _) (hb.cell 3 2 (gS (gS (gS (gZ)))) (by kernel_rfl))) ?_
            refine stp (v := (.bool (decide (vText2 = cText1)))) (want1 rfl (yD 40 hg6)) (x_streq (by kernel_rfl) (by kernel_rfl)) ?_
            refine q2 (.bool (decide (vText2 = cText1))) (x_pickT (b := (((vWho1 : Int) == cWho1) && ((vC2 : Int) == cC1))) (by kernel_rfl) hg6 (by kernel_rfl)) ?_
            refine wpL_nil ?_
            refine th_n ?_
            exact ⟨true, _, hg6, hs, hb, Has.mk (by kernel_rfl)⟩
          · skip
            refine st_not (unwant rfl (yD 40 hg6) rfl) ?_
            refine st_not (unwant rfl (yD 40 hg6) rfl) ?_
            refine st_not (unwant rfl (yD 40 hg6) rfl) ?_
            refine st_not (unwant rfl (yD 40 hg6) rfl) ?_
            refine st_not (unwant rfl (yD 40 hg6) rfl) ?_
            refine q2 (.bool false) (x_pickF (b := (((vWho1 : Int) == cWho1) && ((vC2 : Int) == cC1))) (by kernel_rfl) hg6 (by kernel_rfl)) ?_
            refine wpL_nil ?_
            refine th_n ?_
            exact ⟨false, _, hg6, hs, hb, Has.mk (by kernel_rfl)⟩
        · skip
          rcases Bool.eq_false_or_eq_true ((vWho1 : Int) == cWho1) with hg5 | hg5
          · skip
            refine q1 (.pointer (some (p5.add 1))) (want1 rfl (yD 33 hg5)) ?_
            refine stp (v := (.int .u64 vC2)) (want1 rfl (yD 33 hg5)) (x_load (a := (p5.add 1)) (by kernel_rfl) (Try.isAgg38 _) (hb.cell 0 1 (gZ) (by kernel_rfl))) ?_
            refine q1 (.pointer (some (p2.add 1))) (want1 rfl (yD 33 hg5)) ?_
            refine stp (v := (.int .u64 cC1)) (want1 rfl (yD 33 hg5)) (x_load (a := (p2.add 1)) (by kernel_rfl) (Try.isAgg38 _) (hb.cell 3 1 (gS (gS (gS (gZ)))) (by kernel_rfl))) ?_
            refine q1 (.bool ((vC2 : Int) == cC1)) (want1 rfl (yD 33 hg5)) ?_
            refine q2 (.bool ((vC2 : Int) == cC1)) (x_pickT (b := ((vWho1 : Int) == cWho1)) (by kernel_rfl) hg5 (by kernel_rfl)) ?_
            refine wpL_nil ?_
            exact ⟨true, _, hg5, hs, hb, Has.mk (by kernel_rfl)⟩
          · skip
            refine st_not (unwant rfl (yD 33 hg5) rfl) ?_
            refine st_not (unwant rfl (yD 33 hg5) rfl) ?_
            refine st_not (unwant rfl (yD 33 hg5) rfl) ?_
            refine st_not (unwant rfl (yD 33 hg5) rfl) ?_
            refine st_not (unwant rfl (yD 33 hg5) rfl) ?_
            refine q2 (.bool false) (x_pickF (b := ((vWho1 : Int) == cWho1)) (by kernel_rfl) hg5 (by kernel_rfl)) ?_
            refine wpL_nil ?_
            exact ⟨false, _, hg5, hs, hb, Has.mk (by kernel_rfl)⟩
      · clear hs hb
        rintro ρ w10 ⟨b2'0, H6, he0, hs, hb, hH⟩
        subst he0
        refine norm_has hH ?_
        clear hH
        refine th_n ?_
        refine wpE_cond (t := ((((vWho1 : Int) == cWho1) && ((vC2 : Int) == cC1)) && (decide (vText2 = cText1)))) (by kernel_rfl) (fun hc3 => ?_) (fun hc3 => ?_)
        · replace h := h.1 hc3
          refine wpE_seq ?_
          refine rg ?_
          refine q0 (.pointer (some (p5.add 3))) ?_
          refine q2 (.int .i64 vWhy1) (x_load (a := (p5.add 3)) (by kernel_rfl) (Try.isAgg3 _) (hb.cell 0 3 (gZ) (by kernel_rfl))) ?_
          refine q0 (.int .i64 x1) ?_
          refine q0 (.agg #[(.bool true), (.int .i64 vWhy1), (.int .i64 x1)]) ?_
          refine st_set (want0 rfl) (x_storeA (a := p3) (vs := [(.bool true), (.int .i64 vWhy1), (.int .i64 x1)]) (by kernel_rfl) (by kernel_rfl) rfl (Try.sizeOf43 _) rfl (hb.canWs0 2 3 (gS (gS (gZ))) (by kernel_rfl))) ?_
          intro w12 hn7
          have hsb : Hst w0 Hl2 wl2 H6 w12 ∧ HB H6 w12 [(p5, [(.int .i64 vWho1), (.int .u64 vC2), (.string vText2), (.int .i64 vWhy1), (.int .i64 vBy1)], 46), (p4, [(.int .i64 vKind1), (.int .i64 vFrom1), (.int .u64 vC1), (.string vText1), (.bool vFake1)], 132), (p3, [(.bool true), (.int .i64 vWhy1), (.int .i64 x1)], 43), (p2, [(.int .i64 cWho1), (.int .u64 cC1), (.string cText1)], 40)] := by
            rw [hn7]
            exact hb.store0 (i := 2) (vs := [(.bool true), (.int .i64 vWhy1), (.int .i64 x1)]) hs (gS (gS (gZ))) (by kernel_rfl) (by kernel_rfl)
          clear hs hb hn7
          obtain ⟨hs, hb⟩ := hsb
          refine wpL_nil ?_
          refine th_n ?_
          refine wpE_ret ?_
          refine bl_r ?_
          refine th_r ?_
          refine th_r ?_
          refine bl_r ?_
          refine bl_r ?_
          refine th_r ?_
          refine th_r ?_
          refine bl_r ?_
          refine th_r ?_
          replace h := h H6 w12 hs
          replace hs := hs.here
          refine resG (.inl rfl) (rs := [.cell 6 43]) (vs := [(.agg #[(.bool true), (.int .i64 vWhy1), (.int .i64 x1)])]) (v := (.agg #[(.bool true), (.int .i64 vWhy1), (.int .i64 x1)])) Try.results24 ⟨(RV.cellA (A := p3) (vs := [(.bool true), (.int .i64 vWhy1), (.int .i64 x1)]) (by kernel_rfl) (Try.isAgg43 _) (Try.sizeOf43 _) rfl (hb.row0 2 3 (gS (gS (gZ))) (by kernel_rfl))), trivial⟩ (by kernel_rfl) ?_
          exact ⟨true, vWhy1, x1, rfl, h⟩
        · replace h := h.2 hc3
          refine wpE_skip ?_
          refine bl_n ?_
          refine th_n ?_
          refine rg ?_
          refine q0 (.int .i64 (IntKind.i64.wrap (x2 + 1))) ?_
          refine q0 (.int .i64 (IntKind.i64.wrap (x2 + 1))) ?_
          refine wpL_nil ?_
          replace h := h H6 w10 hs
          replace hs := hs.here
          refine th_n ?_
          exact ⟨((IntKind.i64.wrap (x2 + 1)), xBound2, xWhy2, xBy2, H6, w10), ⟨rfl, Has.mk (by kernel_rfl), hs, hb.drop 1, h.1⟩, h.2⟩
    · replace h := h.2 hc2
      refine wpE_exit ?_
      refine th_x ?_
      refine th_x ?_
      refine bl_eq ?_
      refine bl_n ?_
      refine th_n ?_
      refine rg ?_
      refine q0 (.int .i64 (IntKind.i64.wrap (x1 + 1))) ?_
      refine q0 (.int .i64 (IntKind.i64.wrap (x1 + 1))) ?_
      refine wpL_nil ?_
      refine th_n ?_
      exact ⟨((IntKind.i64.wrap (x1 + 1)), xBound2, xWhy2, xBy2, Hl2, wl2), ⟨rfl, Has.mk (by kernel_rfl), hs, hb.drop 1, h.1⟩, h.2⟩
  · replace h := h.2 hc1
    refine wpE_exit ?_
    refine th_x ?_
    refine th_x ?_
    refine bl_eq ?_
    refine th_n ?_
    refine wpE_seq ?_
    refine rg ?_
    refine q0 (.agg #[(.bool false), (.int .i64 0), (.int .i64 (-1))]) ?_
    refine st_set (want0 rfl) (x_storeA (a := p3) (vs := [(.bool false), (.int .i64 0), (.int .i64 (-1))]) (by kernel_rfl) (by kernel_rfl) rfl (Try.sizeOf43 _) rfl (hb.canWs0 0 3 (gZ) (by kernel_rfl))) ?_
    intro w13 hn8
    have hsb : Hst w0 Hl1 wl1 Hl1 w13 ∧ HB Hl1 w13 [(p3, [(.bool false), (.int .i64 0), (.int .i64 (-1))], 43), (p2, [(.int .i64 cWho1), (.int .u64 cC1), (.string cText1)], 40)] := by
      rw [hn8]
      exact hb.store0 (i := 0) (vs := [(.bool false), (.int .i64 0), (.int .i64 (-1))]) hs (gZ) (by kernel_rfl) (by kernel_rfl)
    clear hs hb hn8
    obtain ⟨hs, hb⟩ := hsb
    refine wpL_nil ?_
    refine th_n ?_
    refine wpE_ret ?_
    replace h := h w13 hs
    replace hs := hs.here
    refine resG (.inl rfl) (rs := [.cell 6 43]) (vs := [(.agg #[(.bool false), (.int .i64 0), (.int .i64 (-1))])]) (v := (.agg #[(.bool false), (.int .i64 0), (.int .i64 (-1))])) Try.results24 ⟨(RV.cellA (A := p3) (vs := [(.bool false), (.int .i64 0), (.int .i64 (-1))]) (by kernel_rfl) (Try.isAgg43 _) (Try.sizeOf43 _) rfl (hb.row0 0 3 (gZ) (by kernel_rfl))), trivial⟩ (by kernel_rfl) ?_
    exact ⟨false, 0, (-1), rfl, h⟩

def m_arbiter_Void_l1 (c1 : Int) (r1 : Sl) (token1 : Bool) (x1 : Int) (w0 : World) (Hl1 : Nat → Prop) (wl1 : World) (Kc1 : Bool → Int → (Nat → Prop) → World → Prop) (K : Bool → World → Prop) : Prop :=
  Br (decide (x1 < (r1.len : Int)))
    (∃ a1 : Addr, At r1 x1 5 a1 ∧
    ∃ vKind1 : Int, ∃ vFrom1 : Int, ∃ vC1 : Int, ∃ vText1 : ByteArray, ∃ vFake1 : Bool, Row wl1 a1 [(.int .i64 vKind1), (.int .i64 vFrom1), (.int .u64 vC1), (.string vText1), (.bool vFake1)] ∧
    Br (((vC1 : Int) == c1) && ((vKind1 : Int) == 6))
      (∀ (H2 : Nat → Prop) (w4 : World), Hst w0 Hl1 wl1 H2 w4 →
      K false w4)
      (∀ (H6 : Nat → Prop) (w8 : World), Hst w0 Hl1 wl1 H6 w8 →
      Kc1 (token1 || (((vC1 : Int) == c1) && ((vKind1 : Int) == 5))) (IntKind.i64.wrap (x1 + 1)) H6 w8))
    (K token1 wl1)
def m_arbiter_Void (p1 : Option Addr) (shown1 : Sl) (c1 : Int) (w0 : World) (K : Bool → World → Prop) : Prop :=
  Calls Try.prog 79 #[(.pointer p1), shown1.v] w0 (fun e w1 => ∃ r1 : Sl, e = .returned r1.v ∧ 
    Kept None w0 w1 ∧
    ∃ (I1 : Bool → Int → (Nat → Prop) → World → Prop) (mu1 : Bool → Int → World → Nat), I1 false 0 None w1 ∧
      ∀ (token1 : Bool) (x1 : Int) (Hl1 : Nat → Prop) (wl1 : World), Hst w0 Hl1 wl1 Hl1 wl1 → I1 token1 x1 Hl1 wl1 → m_arbiter_Void_l1 c1 r1 token1 x1 w0 Hl1 wl1 (fun y'0 y'1 H' w' => I1 y'0 y'1 H' w' ∧ mu1 y'0 y'1 w' < mu1 token1 x1 wl1) K)
set_option maxRecDepth 100000 in
set_option maxHeartbeats 4000000 in
theorem w_arbiter_Void (p1 : Option Addr) (shown1 : Sl) (c1 : Int) (w0 : World) (K : Bool → World → Prop) (h : m_arbiter_Void p1 shown1 c1 w0 K) :
    Calls Try.prog 26 #[(.pointer p1), shown1.v, (.int .u64 c1)] w0 (fun e w' => ∃ r2 : Bool, e = .returned (.bool r2) ∧ K r2 w') := by
  unfold m_arbiter_Void at h
  refine calls_of_wpE (args := [(.pointer p1), shown1.v, (.int .u64 c1)]) Try.func26 rfl Try.ntmps26 (Nat.le_of_ble_eq_true rfl) ?_
  have hs := Hst.start w0
  have hb := HB.nil None w0
  refine wpE_seq ?_
  refine rg ?_
  refine q0 (.bool false) ?_
  refine wpL_nil ?_
  refine th_n ?_
  refine wpE_seq ?_
  refine rg ?_
  refine q0 (.bool false) ?_
  refine wpL_nil ?_
  refine th_n ?_
  refine wpE_seq ?_
  refine wpE_seq ?_
  refine rg ?_
  refine q0 (.pointer p1) ?_
  refine q0 shown1.v ?_
  refine st_call (want0 rfl) (x_callE (args := #[(.pointer p1), shown1.v]) Try.call79 (by kernel_rfl)) (h.mono ?_)
  clear h
  rintro e w1 ⟨r1, rfl, hk, h⟩
  refine ⟨_, rfl, ?_⟩
  replace hs := hs.again hk
  replace hb := hb.kept hk
  clear hk
  refine q0 (.int .i64 (r1.len : Int)) ?_
  refine q0 (.int .i64 0) ?_
  refine wpL_nil ?_
  refine th_n ?_
  refine wpE_block ?_
  obtain ⟨I1, mu1, h0, hr⟩ := h
  refine wpE_loop (σ := Bool × Int × (Nat → Prop) × World) (fun s ρ w => w = s.2.2.2 ∧ Has ρ [(2, (.int .u64 c1)), (7, (.bool s.1)), (12, r1.v), (13, (.int .i64 (r1.len : Int))), (14, (.int .i64 s.2.1))] ∧ Hst w0 s.2.2.1 w s.2.2.1 w ∧ HB s.2.2.1 w [] ∧ I1 s.1 s.2.1 s.2.2.1 s.2.2.2) (fun s => mu1 s.1 s.2.1 s.2.2.2) (false, 0, None, w1) ⟨rfl, Has.mk (by kernel_rfl), hs, hb, h0⟩ ?_
  clear hs hb
  rintro ⟨token1, x1, Hl1, wl1⟩ ρ w ⟨hw, hH, hs, hb, hI⟩
  obtain rfl : wl1 = w := (show w = wl1 from hw).symm
  replace hH : Has ρ [(2, (.int .u64 c1)), (7, (.bool token1)), (12, r1.v), (13, (.int .i64 (r1.len : Int))), (14, (.int .i64 x1))] := hH
  replace hs : Hst w0 Hl1 wl1 Hl1 wl1 := hs
  replace hb : HB Hl1 wl1 [] := hb
  have h := hr token1 x1 Hl1 wl1 hs hI
  clear hr h0
  unfold m_arbiter_Void_l1 at h
  refine wpE_has hH ?_
  clear hH hI
  refine wpE_seq ?_
  refine rg ?_
  refine q0 (.bool (decide (x1 < (r1.len : Int)))) ?_
  refine wpL_nil ?_
  refine th_n ?_
  refine wpE_seq ?_
  refine wpE_cond (t := (decide (x1 < (r1.len : Int)))) (by kernel_rfl) (fun hc1 => ?_) (fun hc1 => ?_)
  · replace h := h.1 hc1
    refine wpE_skip ?_
    refine th_n ?_
    refine wpE_seq ?_
    refine wpE_block ?_
    refine wpE_seq ?_
    refine rg ?_
    obtain ⟨a1, hv2, h⟩ := h
    refine q2 (.pointer (some a1)) (x_indexAddr (s := r1) (k := .i64) (i := x1) (by kernel_rfl) (by kernel_rfl) (Try.runUnderlying27 _) (Try.sizeOf132 _) hv2) ?_
    obtain ⟨vKind1, vFrom1, vC1, vText1, vFake1, hv1, h⟩ := h
    refine q2 (.agg #[(.int .i64 vKind1), (.int .i64 vFrom1), (.int .u64 vC1), (.string vText1), (.bool vFake1)]) (x_loadA (a := a1) (vs := [(.int .i64 vKind1), (.int .i64 vFrom1), (.int .u64 vC1), (.string vText1), (.bool vFake1)]) (by kernel_rfl) (Try.isAgg132 _) (Try.sizeOf132 _) rfl hv1) ?_
    refine st_new (O := (.cells #[(.int .i64 0), (.int .i64 0), (.int .u64 0), (.string (⟨#[]⟩ : ByteArray)), (.bool false)] 132)) (fun p => .pointer (some p)) (want0 rfl) (x_alloc (Try.zeroValue132 _) rfl) ?_
    intro p2 w2 hn1
    have hsb := hs.alloc hb hn1
    clear hs hb hn1
    obtain ⟨H1, hs, hb⟩ := hsb
    refine st_set (want0 rfl) (x_storeA (a := p2) (vs := [(.int .i64 vKind1), (.int .i64 vFrom1), (.int .u64 vC1), (.string vText1), (.bool vFake1)]) (by kernel_rfl) (by kernel_rfl) rfl (Try.sizeOf132 _) rfl (hb.canWs0 0 5 (gZ) (by kernel_rfl))) ?_
    intro w3 hn2
    have hsb : Hst w0 Hl1 wl1 H1 w3 ∧ HB H1 w3 [(p2, [(.int .i64 vKind1), (.int .i64 vFrom1), (.int .u64 vC1), (.string vText1), (.bool vFake1)], 132)] := by
      rw [hn2]
      exact hb.store0 (i := 0) (vs := [(.int .i64 vKind1), (.int .i64 vFrom1), (.int .u64 vC1), (.string vText1), (.bool vFake1)]) hs (gZ) (by kernel_rfl) (by kernel_rfl)
    clear hs hb hn2
    obtain ⟨hs, hb⟩ := hsb
    refine wpL_nil ?_
    refine th_n ?_
    refine wpE_seq ?_
    refine wpE_seq ?_
    refine wpE_via (fun ρ wJ => ∃ b1'0 : Bool, ∃ HJ : Nat → Prop, (((vC1 : Int) == c1) = b1'0) ∧ Hst w0 Hl1 wl1 HJ wJ ∧ HB HJ wJ [(p2, [(.int .i64 vKind1), (.int .i64 vFrom1), (.int .u64 vC1), (.string vText1), (.bool vFake1)], 132)] ∧ Has ρ [(2, (.int .u64 c1)), (7, (.bool token1)), (9, (.pointer (some p2))), (12, r1.v), (13, (.int .i64 (r1.len : Int))), (14, (.int .i64 x1)), (26, (.bool (b1'0 && ((vKind1 : Int) == 6))))]) ?_ ?_
    · skip
      refine rg ?_
      refine q0 (.pointer (some (p2.add 2))) ?_
      refine q2 (.int .u64 vC1) (x_load (a := (p2.add 2)) (by kernel_rfl) (Try.isAgg38 _) (hb.cell 0 2 (gZ) (by kernel_rfl))) ?_
      refine q0 (.int .u64 c1) ?_
      refine q0 (.bool ((vC1 : Int) == c1)) ?_
      refine q0 (.bool ((vC1 : Int) == c1)) ?_
      rcases Bool.eq_false_or_eq_true ((vC1 : Int) == c1) with hg2 | hg2
      · skip
        refine q1 (.pointer (some p2)) (want1 rfl (yD 22 hg2)) ?_
        refine stp (v := (.int .i64 vKind1)) (want1 rfl (yD 22 hg2)) (x_load (a := p2) (by kernel_rfl) (Try.isAgg3 _) (hb.cell0 0 (gZ) (by kernel_rfl))) ?_
        refine q1 (.bool ((vKind1 : Int) == 6)) (want1 rfl (yD 22 hg2)) ?_
        refine q2 (.bool ((vKind1 : Int) == 6)) (x_pickT (b := ((vC1 : Int) == c1)) (by kernel_rfl) hg2 (by kernel_rfl)) ?_
        refine wpL_nil ?_
        refine th_n ?_
        exact ⟨true, _, hg2, hs, hb, Has.mk (by kernel_rfl)⟩
      · skip
        refine st_not (unwant rfl (yD 22 hg2) rfl) ?_
        refine st_not (unwant rfl (yD 22 hg2) rfl) ?_
        refine st_not (unwant rfl (yD 22 hg2) rfl) ?_
        refine q2 (.bool false) (x_pickF (b := ((vC1 : Int) == c1)) (by kernel_rfl) hg2 (by kernel_rfl)) ?_
        refine wpL_nil ?_
        refine th_n ?_
        exact ⟨false, _, hg2, hs, hb, Has.mk (by kernel_rfl)⟩
    · clear hs hb
      rintro ρ w4 ⟨b1'0, H2, he0, hs, hb, hH⟩
      subst he0
      refine norm_has hH ?_
      clear hH
      refine th_n ?_
      refine wpE_cond (t := (((vC1 : Int) == c1) && ((vKind1 : Int) == 6))) (by kernel_rfl) (fun hc2 => ?_) (fun hc2 => ?_)
      · replace h := h.1 hc2
        refine wpE_seq ?_
        refine rg ?_
        refine q0 (.bool false) ?_
        refine wpL_nil ?_
        refine th_n ?_
        refine wpE_ret ?_
        refine th_r ?_
        refine bl_r ?_
        refine th_r ?_
        refine th_r ?_
        refine bl_r ?_
        refine th_r ?_
        replace h := h H2 w4 hs
        replace hs := hs.here
        refine res1 (.inl rfl) Try.results26 (v := (.bool false)) (by kernel_rfl) ?_
        exact ⟨false, rfl, h⟩
      · replace h := h.2 hc2
        refine wpE_skip ?_
        refine th_n ?_
        refine wpE_via (fun ρ wJ => ∃ HJ : Nat → Prop, Hst w0 Hl1 wl1 HJ wJ ∧ HB HJ wJ [(p2, [(.int .i64 vKind1), (.int .i64 vFrom1), (.int .u64 vC1), (.string vText1), (.bool vFake1)], 132)] ∧ Has ρ [(2, (.int .u64 c1)), (7, (.bool (token1 || (((vC1 : Int) == c1) && ((vKind1 : Int) == 5))))), (12, r1.v), (13, (.int .i64 (r1.len : Int))), (14, (.int .i64 x1))]) ?_ ?_
        · skip
          refine rg ?_
          refine q0 (.bool token1) ?_
          refine q0 (.bool token1) ?_
          refine wpL_join 10 (fun ρ wJ => ∃ b7'0 : Bool, ∃ HJ : Nat → Prop, (token1 = b7'0) ∧ Hst w0 Hl1 wl1 HJ wJ ∧ HB HJ wJ [(p2, [(.int .i64 vKind1), (.int .i64 vFrom1), (.int .u64 vC1), (.string vText1), (.bool vFake1)], 132)] ∧ Has ρ [(2, (.int .u64 c1)), (12, r1.v), (13, (.int .i64 (r1.len : Int))), (14, (.int .i64 x1)), (38, (.bool (b7'0 || (((vC1 : Int) == c1) && ((vKind1 : Int) == 5)))))]) ?_ ?_
          · clear hs hb
            rintro ρ w10 ⟨b7'0, H8, he0, hs, hb, hH⟩
            subst he0
            refine wpL_has hH ?_
            clear hH
            refine q0 (.bool (token1 || (((vC1 : Int) == c1) && ((vKind1 : Int) == 5)))) ?_
            refine wpL_nil ?_
            refine th_n ?_
            exact ⟨_, hs, hb, Has.mk (by kernel_rfl)⟩
          · skip
            rcases Bool.eq_false_or_eq_true token1 with hg12 | hg12
            · skip
              refine st_not (unwant rfl (yD 28 hg12) rfl) ?_
              refine st_not (unwant rfl (yD 28 hg12) rfl) ?_
              refine st_not (unwant rfl (yD 28 hg12) rfl) ?_
              refine st_not (unwant rfl (yD 28 hg12) rfl) ?_
              refine st_not (unwant rfl (yD 28 hg12) rfl) ?_
              refine st_not (by kernel_rfl) ?_
              refine st_not (by kernel_rfl) ?_
              refine st_not (by kernel_rfl) ?_
              refine st_not (unwant rfl (yD 28 hg12) rfl) ?_
              refine q2 (.bool true) (x_pickT (b := token1) (by kernel_rfl) hg12 (by kernel_rfl)) ?_
              refine wpL_nil ?_
              exact ⟨true, _, hg12, hs, hb, Has.mk (by kernel_rfl)⟩
            · skip
              refine q1 (.pointer (some (p2.add 2))) (want1 rfl (yD 28 hg12)) ?_
              refine stp (v := (.int .u64 vC1)) (want1 rfl (yD 28 hg12)) (x_load (a := (p2.add 2)) (by kernel_rfl) (Try.isAgg38 _) (hb.cell 0 2 (gZ) (by kernel_rfl))) ?_
              refine q1 (.int .u64 c1) (want1 rfl (yD 28 hg12)) ?_
              refine q1 (.bool ((vC1 : Int) == c1)) (want1 rfl (yD 28 hg12)) ?_
              refine q1 (.bool ((vC1 : Int) == c1)) (want1 rfl (yD 28 hg12)) ?_
              refine wpL_join 4 (fun ρ wJ => ∃ b8'0 : Bool, ∃ HJ : Nat → Prop, (((vC1 : Int) == c1) = b8'0) ∧ Hst w0 Hl1 wl1 HJ wJ ∧ HB HJ wJ [(p2, [(.int .i64 vKind1), (.int .i64 vFrom1), (.int .u64 vC1), (.string vText1), (.bool vFake1)], 132)] ∧ Has ρ [(2, (.int .u64 c1)), (12, r1.v), (13, (.int .i64 (r1.len : Int))), (14, (.int .i64 x1)), (28, (.bool token1)), (37, (.bool (b8'0 && ((vKind1 : Int) == 5))))]) ?_ ?_
              · clear hs hb
                rintro ρ w11 ⟨b8'0, H9, he0, hs, hb, hH⟩
                subst he0
                refine wpL_has hH ?_
                clear hH
                refine q2 (.bool (((vC1 : Int) == c1) && ((vKind1 : Int) == 5))) (x_pickF (b := token1) (by kernel_rfl) hg12 (by kernel_rfl)) ?_
                refine wpL_nil ?_
                exact ⟨false, _, hg12, hs, hb, Has.mk (by kernel_rfl)⟩
              · skip
                rcases Bool.eq_false_or_eq_true ((vC1 : Int) == c1) with hg14 | hg14
                · skip
                  refine q1 (.pointer (some p2)) (want1 rfl (yD 33 hg14)) ?_
                  refine stp (v := (.int .i64 vKind1)) (want1 rfl (yD 33 hg14)) (x_load (a := p2) (by kernel_rfl) (Try.isAgg3 _) (hb.cell0 0 (gZ) (by kernel_rfl))) ?_
                  refine q1 (.bool ((vKind1 : Int) == 5)) (want1 rfl (yD 33 hg14)) ?_
                  refine stp (v := (.bool ((vKind1 : Int) == 5))) (want1 rfl (yD 28 hg12)) (x_pickT (b := ((vC1 : Int) == c1)) (by kernel_rfl) hg14 (by kernel_rfl)) ?_
                  refine wpL_nil ?_
                  exact ⟨true, _, hg14, hs, hb, Has.mk (by kernel_rfl)⟩
                · skip
                  refine st_not (unwant rfl (yD 33 hg14) rfl) ?_
                  refine st_not (unwant rfl (yD 33 hg14) rfl) ?_
                  refine st_not (unwant rfl (yD 33 hg14) rfl) ?_
                  refine stp (v := (.bool false)) (want1 rfl (yD 28 hg12)) (x_pickF (b := ((vC1 : Int) == c1)) (by kernel_rfl) hg14 (by kernel_rfl)) ?_
                  refine wpL_nil ?_
                  exact ⟨false, _, hg14, hs, hb, Has.mk (by kernel_rfl)⟩
        · clear hs hb
          rintro ρ w8 ⟨H6, hs, hb, hH⟩
          refine norm_has hH ?_
          clear hH
          refine bl_n ?_
          refine th_n ?_
          refine rg ?_
          refine q0 (.int .i64 (IntKind.i64.wrap (x1 + 1))) ?_
          refine q0 (.int .i64 (IntKind.i64.wrap (x1 + 1))) ?_
          refine wpL_nil ?_
          replace h := h H6 w8 hs
          replace hs := hs.here
          refine th_n ?_
          exact ⟨((token1 || (((vC1 : Int) == c1) && ((vKind1 : Int) == 5))), (IntKind.i64.wrap (x1 + 1)), H6, w8), ⟨rfl, Has.mk (by kernel_rfl), hs, hb.drop 1, h.1⟩, h.2⟩
  · replace h := h.2 hc1
    refine wpE_exit ?_
    refine th_x ?_
    refine th_x ?_
    refine bl_eq ?_
    refine th_n ?_
    refine wpE_seq ?_
    refine rg ?_
    refine q0 (.bool token1) ?_
    refine q0 (.bool token1) ?_
    refine wpL_nil ?_
    refine th_n ?_
    refine wpE_ret ?_
    refine res1 (.inl rfl) Try.results26 (v := (.bool token1)) (by kernel_rfl) ?_
    exact ⟨token1, rfl, h⟩

theorem eqt_arbiter_Even_eql_4 (a0 : Bool) (b0 : Bool) (w : World) : (Go.binOp .eql 4 (.bool a0) (.bool b0)).run Try.prog w = .ok (.bool (a0 == b0)) w := by
  simp [Go.binOp, Op.equal, Op.maxDepth, go_sem, streq, bne]

def m_arbiter_Even (p1 : Option Addr) (shown1 : Sl) (c1 : Int) (text1 : ByteArray) (w0 : World) (K : Bool → World → Prop) : Prop :=
  Calls Try.prog 24 #[(.pointer p1), shown1.v, (.agg #[(.int .i64 0), (.int .u64 c1), (.string text1)])] w0 (fun e w1 => ∃ rBound1 : Bool, ∃ rWhy1 : Int, ∃ rBy1 : Int, e = .returned (.agg #[(.bool rBound1), (.int .i64 rWhy1), (.int .i64 rBy1)]) ∧ 
    Kept None w0 w1 ∧
    ∀ (H1 : Nat → Prop) (w3 : World), Hst w0 None w1 H1 w3 →
    Calls Try.prog 24 #[(.pointer p1), shown1.v, (.agg #[(.int .i64 1), (.int .u64 c1), (.string text1)])] w3 (fun e w4 => ∃ rBound2 : Bool, ∃ rWhy2 : Int, ∃ rBy2 : Int, e = .returned (.agg #[(.bool rBound2), (.int .i64 rWhy2), (.int .i64 rBy2)]) ∧ 
      Kept H1 w3 w4 ∧
      ∀ (H2 : Nat → Prop) (w6 : World), Hst w0 H1 w4 H2 w6 →
      K (rBound1 == rBound2) w6))
set_option maxRecDepth 100000 in
set_option maxHeartbeats 4000000 in
theorem w_arbiter_Even (p1 : Option Addr) (shown1 : Sl) (c1 : Int) (text1 : ByteArray) (w0 : World) (K : Bool → World → Prop) (h : m_arbiter_Even p1 shown1 c1 text1 w0 K) :
    Calls Try.prog 28 #[(.pointer p1), shown1.v, (.int .u64 c1), (.string text1)] w0 (fun e w' => ∃ r1 : Bool, e = .returned (.bool r1) ∧ K r1 w') := by
  unfold m_arbiter_Even at h
  refine calls_of_wpE (args := [(.pointer p1), shown1.v, (.int .u64 c1), (.string text1)]) Try.func28 rfl Try.ntmps28 (Nat.le_of_ble_eq_true rfl) ?_
  have hs := Hst.start w0
  have hb := HB.nil None w0
  refine wpE_seq ?_
  refine rg ?_
  refine q0 (.bool false) ?_
  refine wpL_nil ?_
  refine th_n ?_
  refine wpE_seq ?_
  refine rg ?_
  refine q0 (.pointer p1) ?_
  refine q0 shown1.v ?_
  refine q0 (.int .u64 c1) ?_
  refine q0 (.string text1) ?_
  refine q0 (.agg #[(.int .i64 0), (.int .u64 c1), (.string text1)]) ?_
  refine st_call (want0 rfl) (x_callE (args := #[(.pointer p1), shown1.v, (.agg #[(.int .i64 0), (.int .u64 c1), (.string text1)])]) Try.call24 (by kernel_rfl)) (h.mono ?_)
  clear h
  rintro e w1 ⟨rBound1, rWhy1, rBy1, rfl, hk, h⟩
  refine ⟨_, rfl, ?_⟩
  replace hs := hs.again hk
  replace hb := hb.kept hk
  clear hk
  refine st_new (O := (.cells #[(.bool false), (.int .i64 0), (.int .i64 0)] 43)) (fun p => .pointer (some p)) (want0 rfl) (x_alloc (Try.zeroValue43 _) rfl) ?_
  intro p2 w2 hn1
  have hsb := hs.alloc hb hn1
  clear hs hb hn1
  obtain ⟨H1, hs, hb⟩ := hsb
  refine st_set (want0 rfl) (x_storeA (a := p2) (vs := [(.bool rBound1), (.int .i64 rWhy1), (.int .i64 rBy1)]) (by kernel_rfl) (by kernel_rfl) rfl (Try.sizeOf43 _) rfl (hb.canWs0 0 3 (gZ) (by kernel_rfl))) ?_
  intro w3 hn2
  have hsb : Hst w0 None w1 H1 w3 ∧ HB H1 w3 [(p2, [(.bool rBound1), (.int .i64 rWhy1), (.int .i64 rBy1)], 43)] := by
    rw [hn2]
    exact hb.store0 (i := 0) (vs := [(.bool rBound1), (.int .i64 rWhy1), (.int .i64 rBy1)]) hs (gZ) (by kernel_rfl) (by kernel_rfl)
  clear hs hb hn2
  obtain ⟨hs, hb⟩ := hsb
  refine wpL_nil ?_
  refine th_n ?_
  refine wpE_seq ?_
  refine rg ?_
  refine q0 (.pointer p1) ?_
  refine q0 shown1.v ?_
  refine q0 (.int .u64 c1) ?_
  refine q0 (.string text1) ?_
  refine q0 (.agg #[(.int .i64 1), (.int .u64 c1), (.string text1)]) ?_
  replace h := h H1 w3 hs
  replace hs := hs.here
  refine st_call (want0 rfl) (x_callE (args := #[(.pointer p1), shown1.v, (.agg #[(.int .i64 1), (.int .u64 c1), (.string text1)])]) Try.call24 (by kernel_rfl)) (h.mono ?_)
  clear h
  rintro e w4 ⟨rBound2, rWhy2, rBy2, rfl, hk, h⟩
  refine ⟨_, rfl, ?_⟩
  replace hs := hs.again hk
  replace hb := hb.kept hk
  clear hk
  refine st_new (O := (.cells #[(.bool false), (.int .i64 0), (.int .i64 0)] 43)) (fun p => .pointer (some p)) (want0 rfl) (x_alloc (Try.zeroValue43 _) rfl) ?_
  intro p3 w5 hn3
  have hsb := hs.alloc hb hn3
  clear hs hb hn3
  obtain ⟨H2, hs, hb⟩ := hsb
  refine st_set (want0 rfl) (x_storeA (a := p3) (vs := [(.bool rBound2), (.int .i64 rWhy2), (.int .i64 rBy2)]) (by kernel_rfl) (by kernel_rfl) rfl (Try.sizeOf43 _) rfl (hb.canWs0 0 3 (gZ) (by kernel_rfl))) ?_
  intro w6 hn4
  have hsb : Hst w0 H1 w4 H2 w6 ∧ HB H2 w6 [(p3, [(.bool rBound2), (.int .i64 rWhy2), (.int .i64 rBy2)], 43), (p2, [(.bool rBound1), (.int .i64 rWhy1), (.int .i64 rBy1)], 43)] := by
    rw [hn4]
    exact hb.store0 (i := 0) (vs := [(.bool rBound2), (.int .i64 rWhy2), (.int .i64 rBy2)]) hs (gZ) (by kernel_rfl) (by kernel_rfl)
  clear hs hb hn4
  obtain ⟨hs, hb⟩ := hsb
  refine wpL_nil ?_
  refine th_n ?_
  refine wpE_seq ?_
  refine rg ?_
  refine q0 (.pointer (some p2)) ?_
  refine q2 (.bool rBound1) (x_load (a := p2) (by kernel_rfl) (Try.isAgg4 _) (hb.cell0 1 (gS (gZ)) (by kernel_rfl))) ?_
  refine q0 (.pointer (some p3)) ?_
  refine q2 (.bool rBound2) (x_load (a := p3) (by kernel_rfl) (Try.isAgg4 _) (hb.cell0 0 (gZ) (by kernel_rfl))) ?_
  refine q2 (.bool (rBound1 == rBound2)) (x_bin (by kernel_rfl) (by kernel_rfl) (by kernel_rfl) (eqt_arbiter_Even_eql_4 rBound1 rBound2 _)) ?_
  refine q0 (.bool (rBound1 == rBound2)) ?_
  refine wpL_nil ?_
  refine th_n ?_
  refine wpE_ret ?_
  replace h := h H2 w6 hs
  replace hs := hs.here
  refine res1 (.inl rfl) Try.results28 (v := (.bool (rBound1 == rBound2))) (by kernel_rfl) ?_
  exact ⟨(rBound1 == rBound2), rfl, h⟩

def m_arbiter_Texts_l1 (who1 : Int) (c1 : Int) (r1 : Sl) (out1 : Sl) (x1 : Int) (w0 : World) (Hl1 : Nat → Prop) (wl1 : World) (Kc1 : Sl → Int → (Nat → Prop) → World → Prop) (K : Sl → World → Prop) : Prop :=
  Br (decide (x1 < (r1.len : Int)))
    (∃ a1 : Addr, At r1 x1 5 a1 ∧
    ∃ vWho1 : Int, ∃ vC1 : Int, ∃ vText1 : ByteArray, ∃ vWhy1 : Int, ∃ vBy1 : Int, Row wl1 a1 [(.int .i64 vWho1), (.int .u64 vC1), (.string vText1), (.int .i64 vWhy1), (.int .i64 vBy1)] ∧
    Br (((vWho1 : Int) == who1) && ((vC1 : Int) == c1))
      (∀ (H2 : Nat → Prop) (w4 : World), Hst w0 Hl1 wl1 H2 w4 →
      ∀ (p3 : Addr) (w5 : World), New w4 (.cells #[(.string vText1)] 9) p3 w5 →
      ∃ s1 : Sl, ∃ w6 : World, (Builtin.append_ #[54, 54] 54 #[out1.v, (Sl.mk (some p3) 1 1).v]).run Try.prog w5 = .ok s1.v w6 ∧
      Kept H2 w5 w6 ∧
      Kc1 s1 (IntKind.i64.wrap (x1 + 1)) H2 w6)
      (∀ (H2 : Nat → Prop) (w4 : World), Hst w0 Hl1 wl1 H2 w4 →
      Kc1 out1 (IntKind.i64.wrap (x1 + 1)) H2 w4))
    (K out1 wl1)
def m_arbiter_Texts (p1 : Option Addr) (shown1 : Sl) (who1 : Int) (c1 : Int) (w0 : World) (K : Sl → World → Prop) : Prop :=
  Calls Try.prog 19 #[(.pointer p1), shown1.v] w0 (fun e w1 => ∃ r1 : Sl, e = .returned r1.v ∧ 
    Kept None w0 w1 ∧
    ∃ (I1 : Sl → Int → (Nat → Prop) → World → Prop) (mu1 : Sl → Int → World → Nat), I1 Sl.nil 0 None w1 ∧
      ∀ (out1 : Sl) (x1 : Int) (Hl1 : Nat → Prop) (wl1 : World), Hst w0 Hl1 wl1 Hl1 wl1 → I1 out1 x1 Hl1 wl1 → m_arbiter_Texts_l1 who1 c1 r1 out1 x1 w0 Hl1 wl1 (fun y'0 y'1 H' w' => I1 y'0 y'1 H' w' ∧ mu1 y'0 y'1 w' < mu1 out1 x1 wl1) K)
set_option maxRecDepth 100000 in
set_option maxHeartbeats 4000000 in
theorem w_arbiter_Texts (p1 : Option Addr) (shown1 : Sl) (who1 : Int) (c1 : Int) (w0 : World) (K : Sl → World → Prop) (h : m_arbiter_Texts p1 shown1 who1 c1 w0 K) :
    Calls Try.prog 31 #[(.pointer p1), shown1.v, (.int .i64 who1), (.int .u64 c1)] w0 (fun e w' => ∃ r2 : Sl, e = .returned r2.v ∧ K r2 w') := by
  unfold m_arbiter_Texts at h
  refine calls_of_wpE (args := [(.pointer p1), shown1.v, (.int .i64 who1), (.int .u64 c1)]) Try.func31 rfl Try.ntmps31 (Nat.le_of_ble_eq_true rfl) ?_
  have hs := Hst.start w0
  have hb := HB.nil None w0
  refine wpE_seq ?_
  refine rg ?_
  refine q0 Sl.nil.v ?_
  refine wpL_nil ?_
  refine th_n ?_
  refine wpE_seq ?_
  refine rg ?_
  refine q0 Sl.nil.v ?_
  refine wpL_nil ?_
  refine th_n ?_
  refine wpE_seq ?_
  refine wpE_seq ?_
  refine rg ?_
  refine q0 (.pointer p1) ?_
  refine q0 shown1.v ?_
  refine st_call (want0 rfl) (x_callE (args := #[(.pointer p1), shown1.v]) Try.call19 (by kernel_rfl)) (h.mono ?_)
  clear h
  rintro e w1 ⟨r1, rfl, hk, h⟩
  refine ⟨_, rfl, ?_⟩
  replace hs := hs.again hk
  replace hb := hb.kept hk
  clear hk
  refine q0 (.int .i64 (r1.len : Int)) ?_
  refine q0 (.int .i64 0) ?_
  refine wpL_nil ?_
  refine th_n ?_
  refine wpE_block ?_
  obtain ⟨I1, mu1, h0, hr⟩ := h
  refine wpE_loop (σ := Sl × Int × (Nat → Prop) × World) (fun s ρ w => w = s.2.2.2 ∧ Has ρ [(2, (.int .i64 who1)), (3, (.int .u64 c1)), (9, s.1.v), (14, r1.v), (15, (.int .i64 (r1.len : Int))), (16, (.int .i64 s.2.1))] ∧ Hst w0 s.2.2.1 w s.2.2.1 w ∧ HB s.2.2.1 w [] ∧ I1 s.1 s.2.1 s.2.2.1 s.2.2.2) (fun s => mu1 s.1 s.2.1 s.2.2.2) (Sl.nil, 0, None, w1) ⟨rfl, Has.mk (by kernel_rfl), hs, hb, h0⟩ ?_
  clear hs hb
  rintro ⟨out1, x1, Hl1, wl1⟩ ρ w ⟨hw, hH, hs, hb, hI⟩
  obtain rfl : wl1 = w := (show w = wl1 from hw).symm
  replace hH : Has ρ [(2, (.int .i64 who1)), (3, (.int .u64 c1)), (9, out1.v), (14, r1.v), (15, (.int .i64 (r1.len : Int))), (16, (.int .i64 x1))] := hH
  replace hs : Hst w0 Hl1 wl1 Hl1 wl1 := hs
  replace hb : HB Hl1 wl1 [] := hb
  have h := hr out1 x1 Hl1 wl1 hs hI
  clear hr h0
  unfold m_arbiter_Texts_l1 at h
  refine wpE_has hH ?_
  clear hH hI
  refine wpE_seq ?_
  refine rg ?_
  refine q0 (.bool (decide (x1 < (r1.len : Int)))) ?_
  refine wpL_nil ?_
  refine th_n ?_
  refine wpE_seq ?_
  refine wpE_cond (t := (decide (x1 < (r1.len : Int)))) (by kernel_rfl) (fun hc1 => ?_) (fun hc1 => ?_)
  · replace h := h.1 hc1
    refine wpE_skip ?_
    refine th_n ?_
    refine wpE_seq ?_
    refine wpE_block ?_
    refine wpE_seq ?_
    refine rg ?_
    obtain ⟨a1, hv3, h⟩ := h
    refine q2 (.pointer (some a1)) (x_indexAddr (s := r1) (k := .i64) (i := x1) (by kernel_rfl) (by kernel_rfl) (Try.runUnderlying31 _) (Try.sizeOf46 _) hv3) ?_
    obtain ⟨vWho1, vC1, vText1, vWhy1, vBy1, hv2, h⟩ := h
    refine q2 (.agg #[(.int .i64 vWho1), (.int .u64 vC1), (.string vText1), (.int .i64 vWhy1), (.int .i64 vBy1)]) (x_loadA (a := a1) (vs := [(.int .i64 vWho1), (.int .u64 vC1), (.string vText1), (.int .i64 vWhy1), (.int .i64 vBy1)]) (by kernel_rfl) (Try.isAgg46 _) (Try.sizeOf46 _) rfl hv2) ?_
    refine st_new (O := (.cells #[(.int .i64 0), (.int .u64 0), (.string (⟨#[]⟩ : ByteArray)), (.int .i64 0), (.int .i64 0)] 46)) (fun p => .pointer (some p)) (want0 rfl) (x_alloc (Try.zeroValue46 _) rfl) ?_
    intro p2 w2 hn1
    have hsb := hs.alloc hb hn1
    clear hs hb hn1
    obtain ⟨H1, hs, hb⟩ := hsb
    refine st_set (want0 rfl) (x_storeA (a := p2) (vs := [(.int .i64 vWho1), (.int .u64 vC1), (.string vText1), (.int .i64 vWhy1), (.int .i64 vBy1)]) (by kernel_rfl) (by kernel_rfl) rfl (Try.sizeOf46 _) rfl (hb.canWs0 0 5 (gZ) (by kernel_rfl))) ?_
    intro w3 hn2
    have hsb : Hst w0 Hl1 wl1 H1 w3 ∧ HB H1 w3 [(p2, [(.int .i64 vWho1), (.int .u64 vC1), (.string vText1), (.int .i64 vWhy1), (.int .i64 vBy1)], 46)] := by
      rw [hn2]
      exact hb.store0 (i := 0) (vs := [(.int .i64 vWho1), (.int .u64 vC1), (.string vText1), (.int .i64 vWhy1), (.int .i64 vBy1)]) hs (gZ) (by kernel_rfl) (by kernel_rfl)
    clear hs hb hn2
    obtain ⟨hs, hb⟩ := hsb
    refine wpL_nil ?_
    refine th_n ?_
    refine wpE_seq ?_
    refine wpE_via (fun ρ wJ => ∃ b1'0 : Bool, ∃ HJ : Nat → Prop, (((vWho1 : Int) == who1) = b1'0) ∧ Hst w0 Hl1 wl1 HJ wJ ∧ HB HJ wJ [(p2, [(.int .i64 vWho1), (.int .u64 vC1), (.string vText1), (.int .i64 vWhy1), (.int .i64 vBy1)], 46)] ∧ Has ρ [(2, (.int .i64 who1)), (3, (.int .u64 c1)), (9, out1.v), (11, (.pointer (some p2))), (14, r1.v), (15, (.int .i64 (r1.len : Int))), (16, (.int .i64 x1)), (29, (.bool (b1'0 && ((vC1 : Int) == c1))))]) ?_ ?_
    · skip
      refine rg ?_
      refine q0 (.pointer (some p2)) ?_
      refine q2 (.int .i64 vWho1) (x_load (a := p2) (by kernel_rfl) (Try.isAgg3 _) (hb.cell0 0 (gZ) (by kernel_rfl))) ?_
      refine q0 (.int .i64 who1) ?_
      refine q0 (.bool ((vWho1 : Int) == who1)) ?_
      refine q0 (.bool ((vWho1 : Int) == who1)) ?_
      rcases Bool.eq_false_or_eq_true ((vWho1 : Int) == who1) with hg2 | hg2
      · skip
        refine q1 (.pointer (some (p2.add 1))) (want1 rfl (yD 24 hg2)) ?_
        refine stp (v := (.int .u64 vC1)) (want1 rfl (yD 24 hg2)) (x_load (a := (p2.add 1)) (by kernel_rfl) (Try.isAgg38 _) (hb.cell 0 1 (gZ) (by kernel_rfl))) ?_
        refine q1 (.int .u64 c1) (want1 rfl (yD 24 hg2)) ?_
        refine q1 (.bool ((vC1 : Int) == c1)) (want1 rfl (yD 24 hg2)) ?_
        refine q2 (.bool ((vC1 : Int) == c1)) (x_pickT (b := ((vWho1 : Int) == who1)) (by kernel_rfl) hg2 (by kernel_rfl)) ?_
        refine wpL_nil ?_
        refine th_n ?_
        exact ⟨true, _, hg2, hs, hb, Has.mk (by kernel_rfl)⟩
      · skip
        refine st_not (unwant rfl (yD 24 hg2) rfl) ?_
        refine st_not (unwant rfl (yD 24 hg2) rfl) ?_
        refine st_not (unwant rfl (yD 24 hg2) rfl) ?_
        refine st_not (unwant rfl (yD 24 hg2) rfl) ?_
        refine q2 (.bool false) (x_pickF (b := ((vWho1 : Int) == who1)) (by kernel_rfl) hg2 (by kernel_rfl)) ?_
        refine wpL_nil ?_
        refine th_n ?_
        exact ⟨false, _, hg2, hs, hb, Has.mk (by kernel_rfl)⟩
    · clear hs hb
      rintro ρ w4 ⟨b1'0, H2, he0, hs, hb, hH⟩
      subst he0
      refine norm_has hH ?_
      clear hH
      refine th_n ?_
      refine wpE_cond (t := (((vWho1 : Int) == who1) && ((vC1 : Int) == c1))) (by kernel_rfl) (fun hc2 => ?_) (fun hc2 => ?_)
      · replace h := h.1 hc2
        refine rg ?_
        refine q0 out1.v ?_
        refine q0 (.pointer (some (p2.add 2))) ?_
        refine q2 (.string vText1) (x_load (a := (p2.add 2)) (by kernel_rfl) (Try.isAgg9 _) (hb.cell 0 2 (gZ) (by kernel_rfl))) ?_
        replace h := h H2 w4 hs
        replace hs := hs.here
        refine st_new (O := (.cells #[(.string vText1)] 9)) (fun p => (Sl.mk (some p) 1 1).v) (want0 rfl) (x_buildSlice (vs := #[(0, (.string vText1))]) (by kernel_rfl) (by kernel_rfl)) ?_
        intro p3 w5 hn3
        replace h := h p3 w5 hn3
        replace hs := hs.again (Ext.new (F := None) hn3).keptP
        replace hb := hb.kept (Ext.new (F := None) hn3).keptP
        obtain ⟨s1, w6, hv1, hk, h⟩ := h
        refine st (v := s1.v) (want0 rfl) (x_builtin (args := #[out1.v, (Sl.mk (some p3) 1 1).v]) (by kernel_rfl) (fun _ => rfl) hv1) ?_
        replace hs := hs.again hk
        replace hb := hb.kept hk
        clear hk
        refine q0 s1.v ?_
        refine wpL_nil ?_
        refine bl_n ?_
        refine th_n ?_
        refine rg ?_
        refine q0 (.int .i64 (IntKind.i64.wrap (x1 + 1))) ?_
        refine q0 (.int .i64 (IntKind.i64.wrap (x1 + 1))) ?_
        refine wpL_nil ?_
        refine th_n ?_
        exact ⟨(s1, (IntKind.i64.wrap (x1 + 1)), H2, w6), ⟨rfl, Has.mk (by kernel_rfl), hs, hb.drop 1, h.1⟩, h.2⟩
      · replace h := h.2 hc2
        refine wpE_skip ?_
        refine bl_n ?_
        refine th_n ?_
        refine rg ?_
        refine q0 (.int .i64 (IntKind.i64.wrap (x1 + 1))) ?_
        refine q0 (.int .i64 (IntKind.i64.wrap (x1 + 1))) ?_
        refine wpL_nil ?_
        replace h := h H2 w4 hs
        replace hs := hs.here
        refine th_n ?_
        exact ⟨(out1, (IntKind.i64.wrap (x1 + 1)), H2, w4), ⟨rfl, Has.mk (by kernel_rfl), hs, hb.drop 1, h.1⟩, h.2⟩
  · replace h := h.2 hc1
    refine wpE_exit ?_
    refine th_x ?_
    refine th_x ?_
    refine bl_eq ?_
    refine th_n ?_
    refine wpE_seq ?_
    refine rg ?_
    refine q0 out1.v ?_
    refine q0 out1.v ?_
    refine wpL_nil ?_
    refine th_n ?_
    refine wpE_ret ?_
    refine res1 (.inl rfl) Try.results31 (v := out1.v) (by kernel_rfl) ?_
    exact ⟨out1, rfl, h⟩
end Go.Proofs
