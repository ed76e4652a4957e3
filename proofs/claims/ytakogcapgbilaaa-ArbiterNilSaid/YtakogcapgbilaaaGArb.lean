import Derived.Test.YtakogcapgbilaaaProg
import Derived.KernelRfl
import Derived.Test.YtakogcapgbilaaaSeM
open Go Go.SE
namespace Go.Proofs
attribute [local irreducible] wpL wpX opE wpE Calls
def m_arbiter_read_l1 (p1 : Option Addr) (shown1 : Sl) (s1 : Sl) (x1 : Int) (wl1 : World) (Kc1 : Int → World → Prop) (K : Sl → World → Prop) : Prop :=
  Br (decide (x1 < (shown1.len : Int)))
    (∃ a1 : Addr, At shown1 x1 1 a1 ∧
    ∃ v1 : Int, wl1.cell? a1 = some (.int .i64 v1) ∧
    Calls Try.prog 130 #[(.pointer p1), (.int .i64 v1)] wl1 (fun e w2 => ∃ rKind1 : Int, ∃ rFrom1 : Int, ∃ rC1 : Int, ∃ rText1 : ByteArray, ∃ rFake1 : Bool, ∃ r1 : Bool, e = .returned (.tuple #[(.agg #[(.int .i64 rKind1), (.int .i64 rFrom1), (.int .u64 rC1), (.string rText1), (.bool rFake1)]), (.bool r1)]) ∧ 
      ∃ a2 : Addr, At s1 x1 5 a2 ∧
      (∀ j, j < 5 → CanW w2 (a2.add j)) ∧ ∀ w3 : World, w3 = storeRow w2 a2 [(.int .i64 rKind1), (.int .i64 rFrom1), (.int .u64 rC1), (.string rText1), (.bool rFake1)] →
      Kc1 (IntKind.i64.wrap (x1 + 1)) w3))
    (K s1 wl1)
def m_arbiter_read (p1 : Option Addr) (shown1 : Sl) (w : World) (K : Sl → World → Prop) : Prop :=
  ∃ s1 : Sl, ∃ w1 : World, (Instr.makeSlice 27 (.int .i64 (shown1.len : Int)) (.int .i64 (shown1.len : Int))).run Try.prog w = .ok s1.v w1 ∧
  Br (Option.isNone p1)
    (K s1 w1)
    (∃ (I1 : Int → World → Prop) (mu1 : Int → World → Nat), I1 0 w1 ∧
      ∀ (x1 : Int) (wl1 : World), I1 x1 wl1 → m_arbiter_read_l1 p1 shown1 s1 x1 wl1 (fun y'0 w' => I1 y'0 w' ∧ mu1 y'0 w' < mu1 x1 wl1) K)
set_option maxRecDepth 100000 in
set_option maxHeartbeats 4000000 in
theorem w_arbiter_read (p1 : Option Addr) (shown1 : Sl) (w : World) (K : Sl → World → Prop) (h : m_arbiter_read p1 shown1 w K) :
    Calls Try.prog 79 #[(.pointer p1), shown1.v] w (fun e w' => ∃ r2 : Sl, e = .returned r2.v ∧ K r2 w') := by
  unfold m_arbiter_read at h
  refine calls_of_wpE (args := [(.pointer p1), shown1.v]) Try.func79 rfl Try.ntmps79 (Nat.le_of_ble_eq_true rfl) ?_
  refine wpE_seq ?_
  refine rg ?_
  refine q0 Sl.nil.v ?_
  refine wpL_nil ?_
  refine th_n ?_
  refine wpE_seq ?_
  refine rg ?_
  refine q0 shown1.v ?_
  refine q0 (.int .i64 (shown1.len : Int)) ?_
  obtain ⟨s1, w1, hv4, h⟩ := h
  refine st (v := s1.v) (want0 rfl) (x_makeSlice (by kernel_rfl) (by kernel_rfl) hv4) ?_
  refine q0 s1.v ?_
  refine wpL_nil ?_
  refine th_n ?_
  refine wpE_seq ?_
  refine wpE_seq ?_
  refine rg ?_
  refine q0 (.pointer p1) ?_
  refine q2 (.bool (Option.isNone p1)) (x_ptreq (by kernel_rfl) rfl Try.underlying25) ?_
  refine wpL_nil ?_
  refine th_n ?_
  refine wpE_cond (t := (Option.isNone p1)) (by kernel_rfl) (fun hc1 => ?_) (fun hc1 => ?_)
  · replace h := h.1 hc1
    refine wpE_seq ?_
    refine rg ?_
    refine q0 s1.v ?_
    refine q0 s1.v ?_
    refine wpL_nil ?_
    refine th_n ?_
    refine wpE_ret ?_
    refine th_r ?_
    refine res1 (.inl rfl) Try.results79 (v := s1.v) (by kernel_rfl) ?_
    exact ⟨s1, rfl, h⟩
  · replace h := h.2 hc1
    refine wpE_skip ?_
    refine th_n ?_
    refine wpE_seq ?_
    refine wpE_seq ?_
    refine rg ?_
    refine q0 shown1.v ?_
    refine q0 (.int .i64 (shown1.len : Int)) ?_
    refine q0 (.int .i64 0) ?_
    refine wpL_nil ?_
    refine th_n ?_
    refine wpE_block ?_
    obtain ⟨I1, mu1, h0, hr⟩ := h
    refine wpE_loop (σ := Int × World) (fun s ρ w => w = s.2 ∧ Has ρ [(0, (.pointer p1)), (5, s1.v), (14, shown1.v), (15, (.int .i64 (shown1.len : Int))), (16, (.int .i64 s.1))] ∧ I1 s.1 s.2) (fun s => mu1 s.1 s.2) (0, w1) ⟨rfl, Has.mk (by kernel_rfl), h0⟩ ?_
    rintro ⟨x1, wl1⟩ ρ w ⟨hw, hH, hI⟩
    obtain rfl : wl1 = w := (show w = wl1 from hw).symm
    replace hH : Has ρ [(0, (.pointer p1)), (5, s1.v), (14, shown1.v), (15, (.int .i64 (shown1.len : Int))), (16, (.int .i64 x1))] := hH
    have h := hr x1 wl1 hI
    clear hr h0
    unfold m_arbiter_read_l1 at h
    refine wpE_has hH ?_
    clear hH hI
    refine wpE_seq ?_
    refine rg ?_
    refine q0 (.bool (decide (x1 < (shown1.len : Int)))) ?_
    refine wpL_nil ?_
    refine th_n ?_
    refine wpE_seq ?_
    refine wpE_cond (t := (decide (x1 < (shown1.len : Int)))) (by kernel_rfl) (fun hc2 => ?_) (fun hc2 => ?_)
    · replace h := h.1 hc2
      refine wpE_skip ?_
      refine th_n ?_
      refine wpE_seq ?_
      refine wpE_block ?_
      refine wpE_seq ?_
      refine rg ?_
      refine q0 (.int .i64 x1) ?_
      obtain ⟨a1, hv3, h⟩ := h
      refine q2 (.pointer (some a1)) (x_indexAddr (s := shown1) (k := .i64) (i := x1) (by kernel_rfl) (by kernel_rfl) (Try.runUnderlying26 _) (Try.sizeOf41 _) hv3) ?_
      obtain ⟨v1, hv2, h⟩ := h
      refine q2 (.int .i64 v1) (x_load (a := a1) (by kernel_rfl) (Try.isAgg41 _) hv2) ?_
      refine q0 (.int .i64 x1) ?_
      refine q0 (.int .i64 v1) ?_
      refine wpL_nil ?_
      refine th_n ?_
      refine rg ?_
      refine q0 s1.v ?_
      refine q0 (.int .i64 x1) ?_
      refine q0 (.pointer p1) ?_
      refine q0 (.int .i64 v1) ?_
      refine st_call (want0 rfl) (x_callE (args := #[(.pointer p1), (.int .i64 v1)]) Try.call130 (by kernel_rfl)) (h.mono ?_)
      clear h
      rintro e w2 ⟨rKind1, rFrom1, rC1, rText1, rFake1, r1, rfl, h⟩
      refine ⟨_, rfl, ?_⟩
      refine q0 (.tuple #[(.agg #[(.int .i64 rKind1), (.int .i64 rFrom1), (.int .u64 rC1), (.string rText1), (.bool rFake1)]), (.bool r1)]) ?_
      refine q0 (.agg #[(.int .i64 rKind1), (.int .i64 rFrom1), (.int .u64 rC1), (.string rText1), (.bool rFake1)]) ?_
      refine q0 (.bool r1) ?_
      obtain ⟨a2, hv1, h⟩ := h
      refine q2 (.pointer (some a2)) (x_indexAddr (s := s1) (k := .i64) (i := x1) (by kernel_rfl) (by kernel_rfl) (Try.runUnderlying27 _) (Try.sizeOf132 _) hv1) ?_
      obtain ⟨hp1, h⟩ := h
      refine st_set (want0 rfl) (x_storeA (a := a2) (vs := [(.int .i64 rKind1), (.int .i64 rFrom1), (.int .u64 rC1), (.string rText1), (.bool rFake1)]) (by kernel_rfl) (by kernel_rfl) rfl (Try.sizeOf132 _) rfl hp1) ?_
      intro w3 hn1
      replace h := h w3 hn1
      refine wpL_nil ?_
      refine bl_n ?_
      refine th_n ?_
      refine rg ?_
      refine q0 (.int .i64 (IntKind.i64.wrap (x1 + 1))) ?_
      refine q0 (.int .i64 (IntKind.i64.wrap (x1 + 1))) ?_
      refine wpL_nil ?_
      refine th_n ?_
      exact ⟨((IntKind.i64.wrap (x1 + 1)), w3), ⟨rfl, Has.mk (by kernel_rfl), h.1⟩, h.2⟩
    · replace h := h.2 hc2
      refine wpE_exit ?_
      refine th_x ?_
      refine th_x ?_
      refine bl_eq ?_
      refine th_n ?_
      refine wpE_seq ?_
      refine rg ?_
      refine q0 s1.v ?_
      refine q0 s1.v ?_
      refine wpL_nil ?_
      refine th_n ?_
      refine wpE_ret ?_
      refine res1 (.inl rfl) Try.results79 (v := s1.v) (by kernel_rfl) ?_
      exact ⟨s1, rfl, h⟩

def m_arbiter_bonds_j1 (by1 : Int) (p1 : Addr) (out1 : Sl) (why1 : Int) (w : World) (K : Sl → World → Prop) : Prop :=
  ∃ v2 : Int, w.cell? (p1.add 1) = some (.int .i64 v2) ∧
  ∃ v3 : Int, w.cell? (p1.add 2) = some (.int .u64 v3) ∧
  ∃ v4 : ByteArray, w.cell? (p1.add 3) = some (.string v4) ∧
  ∀ (p2 : Addr) (w2 : World), New w (.cells #[(.int .i64 v2), (.int .u64 v3), (.string v4), (.int .i64 why1), (.int .i64 by1)] 46) p2 w2 →
  ∃ s1 : Sl, ∃ w3 : World, (Builtin.append_ #[31, 31] 31 #[out1.v, (Sl.mk (some p2) 1 1).v]).run Try.prog w2 = .ok s1.v w3 ∧
  K s1 w3
def m_arbiter_bonds (lKind1 : Int) (lFrom1 : Int) (lC1 : Int) (lText1 : ByteArray) (lFake1 : Bool) (by1 : Int) (w : World) (K : Sl → World → Prop) : Prop :=
  ∀ (p1 : Addr) (w1 : World), New w (.cells #[(.int .i64 lKind1), (.int .i64 lFrom1), (.int .u64 lC1), (.string lText1), (.bool lFake1)] 132) p1 w1 →
  ∃ v1 : Int, w1.cell? p1 = some (.int .i64 v1) ∧
  Br ((v1 : Int) == 6)
    (CanW w1 (p1.add 1) ∧ ∀ w4 : World, w4 = w1.setCell (p1.add 1) (.int .i64 1) →
    ∃ v5 : Int, w4.cell? (p1.add 2) = some (.int .u64 v5) ∧
    ∃ v6 : ByteArray, w4.cell? (p1.add 3) = some (.string v6) ∧
    ∀ (p3 : Addr) (w5 : World), New w4 (.cells #[(.int .i64 0), (.int .u64 v5), (.string v6), (.int .i64 2), (.int .i64 by1)] 46) p3 w5 →
    ∃ s2 : Sl, ∃ w6 : World, (Builtin.append_ #[31, 31] 31 #[Sl.nil.v, (Sl.mk (some p3) 1 1).v]).run Try.prog w5 = .ok s2.v w6 ∧
    m_arbiter_bonds_j1 by1 p1 s2 2 w6 K)
    (Br ((v1 : Int) == 2)
      (m_arbiter_bonds_j1 by1 p1 Sl.nil 1 w1 K)
      (K Sl.nil w1))
set_option maxRecDepth 100000 in
set_option maxHeartbeats 4000000 in
theorem w_arbiter_bonds (lKind1 : Int) (lFrom1 : Int) (lC1 : Int) (lText1 : ByteArray) (lFake1 : Bool) (by1 : Int) (w : World) (K : Sl → World → Prop) (h : m_arbiter_bonds lKind1 lFrom1 lC1 lText1 lFake1 by1 w K) :
    Calls Try.prog 80 #[(.agg #[(.int .i64 lKind1), (.int .i64 lFrom1), (.int .u64 lC1), (.string lText1), (.bool lFake1)]), (.int .i64 by1)] w (fun e w' => ∃ r1 : Sl, e = .returned r1.v ∧ K r1 w') := by
  unfold m_arbiter_bonds at h
  refine calls_of_wpE (args := [(.agg #[(.int .i64 lKind1), (.int .i64 lFrom1), (.int .u64 lC1), (.string lText1), (.bool lFake1)]), (.int .i64 by1)]) Try.func80 rfl Try.ntmps80 (Nat.le_of_ble_eq_true rfl) ?_
  refine wpE_seq ?_
  refine rg ?_
  refine st_new (O := (.cells #[(.int .i64 lKind1), (.int .i64 lFrom1), (.int .u64 lC1), (.string lText1), (.bool lFake1)] 132)) (fun p => .pointer (some p)) (want0 rfl) (x_box (cs := #[(.int .i64 lKind1), (.int .i64 lFrom1), (.int .u64 lC1), (.string lText1), (.bool lFake1)]) (by kernel_rfl)) ?_
  intro p1 w1 hn4
  replace h := h p1 w1 hn4
  refine q0 Sl.nil.v ?_
  refine wpL_nil ?_
  refine th_n ?_
  refine wpE_seq ?_
  refine rg ?_
  refine q0 Sl.nil.v ?_
  refine wpL_nil ?_
  refine th_n ?_
  refine wpE_seq ?_
  refine wpE_seq ?_
  refine rg ?_
  refine q0 (.int .i64 1) ?_
  refine wpL_nil ?_
  refine th_n ?_
  refine wpE_seq ?_
  refine rg ?_
  refine q0 (.pointer (some p1)) ?_
  obtain ⟨v1, hv8, h⟩ := h
  refine q2 (.int .i64 v1) (x_load (a := p1) (by kernel_rfl) (Try.isAgg3 _) hv8) ?_
  refine wpL_nil ?_
  refine th_n ?_
  refine wpE_block ?_
  refine wpE_join (fun ρ w => ∃ out1 : Sl, ∃ why1 : Int, Has ρ [(1, (.int .i64 by1)), (2, (.pointer (some p1))), (5, out1.v), (6, (.int .i64 why1))] ∧ m_arbiter_bonds_j1 by1 p1 out1 why1 w K) ?_ ?_
  · rintro ρ w ⟨out1, why1, hH, h⟩
    unfold m_arbiter_bonds_j1 at h
    refine wpE_has hH ?_
    clear hH
    refine wpE_seq ?_
    refine rg ?_
    refine q0 out1.v ?_
    refine q0 (.pointer (some (p1.add 1))) ?_
    obtain ⟨v2, hv4, h⟩ := h
    refine q2 (.int .i64 v2) (x_load (a := (p1.add 1)) (by kernel_rfl) (Try.isAgg3 _) hv4) ?_
    refine q0 (.pointer (some (p1.add 2))) ?_
    obtain ⟨v3, hv3, h⟩ := h
    refine q2 (.int .u64 v3) (x_load (a := (p1.add 2)) (by kernel_rfl) (Try.isAgg38 _) hv3) ?_
    refine q0 (.pointer (some (p1.add 3))) ?_
    obtain ⟨v4, hv2, h⟩ := h
    refine q2 (.string v4) (x_load (a := (p1.add 3)) (by kernel_rfl) (Try.isAgg9 _) hv2) ?_
    refine q0 (.int .i64 why1) ?_
    refine q0 (.int .i64 by1) ?_
    refine q0 (.agg #[(.int .i64 v2), (.int .u64 v3), (.string v4), (.int .i64 why1), (.int .i64 by1)]) ?_
    refine st_new (O := (.cells #[(.int .i64 v2), (.int .u64 v3), (.string v4), (.int .i64 why1), (.int .i64 by1)] 46)) (fun p => (Sl.mk (some p) 1 1).v) (want0 rfl) (x_buildSlice (vs := #[(0, (.agg #[(.int .i64 v2), (.int .u64 v3), (.string v4), (.int .i64 why1), (.int .i64 by1)]))]) (by kernel_rfl) (by kernel_rfl)) ?_
    intro p2 w2 hn1
    replace h := h p2 w2 hn1
    obtain ⟨s1, w3, hv1, h⟩ := h
    refine st (v := s1.v) (want0 rfl) (x_builtin (args := #[out1.v, (Sl.mk (some p2) 1 1).v]) (by kernel_rfl) (fun _ => rfl) hv1) ?_
    refine q0 s1.v ?_
    refine wpL_nil ?_
    refine th_n ?_
    refine wpE_exit ?_
    refine bl_eq ?_
    refine th_n ?_
    refine wpE_seq ?_
    refine rg ?_
    refine q0 s1.v ?_
    refine q0 s1.v ?_
    refine wpL_nil ?_
    refine th_n ?_
    refine wpE_ret ?_
    refine res1 (.inl rfl) Try.results80 (v := s1.v) (by kernel_rfl) ?_
    exact ⟨s1, rfl, h⟩
  · skip
    refine wpE_block ?_
    refine wpE_seq ?_
    refine wpE_block ?_
    refine wpE_seq ?_
    refine wpE_seq ?_
    refine wpE_seq ?_
    refine rg ?_
    refine q0 (.bool ((v1 : Int) == 6)) ?_
    refine q0 (.bool ((v1 : Int) == 6)) ?_
    refine wpL_nil ?_
    refine th_n ?_
    refine wpE_cond (t := ((v1 : Int) == 6)) (by kernel_rfl) (fun hc1 => ?_) (fun hc1 => ?_)
    · replace h := h.1 hc1
      refine wpE_exit ?_
      refine th_x ?_
      refine th_x ?_
      refine bl_eq ?_
      refine th_n ?_
      refine wpE_seq ?_
      refine rg ?_
      refine q0 (.int .i64 2) ?_
      refine wpL_nil ?_
      refine th_n ?_
      refine wpE_seq ?_
      refine rg ?_
      refine q0 (.pointer (some (p1.add 1))) ?_
      obtain ⟨hp1, h⟩ := h
      refine st_set (want0 rfl) (x_store (a := (p1.add 1)) (v := (.int .i64 1)) (by kernel_rfl) (by kernel_rfl) rfl (Try.sizeOf3 _) hp1) ?_
      intro w4 hn2
      replace h := h w4 hn2
      refine wpL_nil ?_
      refine th_n ?_
      refine rg ?_
      refine q0 Sl.nil.v ?_
      refine q0 (.pointer (some (p1.add 2))) ?_
      obtain ⟨v5, hv7, h⟩ := h
      refine q2 (.int .u64 v5) (x_load (a := (p1.add 2)) (by kernel_rfl) (Try.isAgg38 _) hv7) ?_
      refine q0 (.pointer (some (p1.add 3))) ?_
      obtain ⟨v6, hv6, h⟩ := h
      refine q2 (.string v6) (x_load (a := (p1.add 3)) (by kernel_rfl) (Try.isAgg9 _) hv6) ?_
      refine q0 (.int .i64 2) ?_
      refine q0 (.int .i64 by1) ?_
      refine q0 (.agg #[(.int .i64 0), (.int .u64 v5), (.string v6), (.int .i64 2), (.int .i64 by1)]) ?_
      refine st_new (O := (.cells #[(.int .i64 0), (.int .u64 v5), (.string v6), (.int .i64 2), (.int .i64 by1)] 46)) (fun p => (Sl.mk (some p) 1 1).v) (want0 rfl) (x_buildSlice (vs := #[(0, (.agg #[(.int .i64 0), (.int .u64 v5), (.string v6), (.int .i64 2), (.int .i64 by1)]))]) (by kernel_rfl) (by kernel_rfl)) ?_
      intro p3 w5 hn3
      replace h := h p3 w5 hn3
      obtain ⟨s2, w6, hv5, h⟩ := h
      refine st (v := s2.v) (want0 rfl) (x_builtin (args := #[Sl.nil.v, (Sl.mk (some p3) 1 1).v]) (by kernel_rfl) (fun _ => rfl) hv5) ?_
      refine q0 s2.v ?_
      refine wpL_nil ?_
      refine bl_n ?_
      refine th_n ?_
      exact ⟨s2, 2, Has.mk (by kernel_rfl), h⟩
    · replace h := h.2 hc1
      refine wpE_skip ?_
      refine th_n ?_
      refine wpE_seq ?_
      refine rg ?_
      refine q0 (.bool ((v1 : Int) == 2)) ?_
      refine q0 (.bool ((v1 : Int) == 2)) ?_
      refine wpL_nil ?_
      refine th_n ?_
      refine wpE_cond (t := ((v1 : Int) == 2)) (by kernel_rfl) (fun hc2 => ?_) (fun hc2 => ?_)
      · replace h := h.1 hc2
        refine wpE_exit ?_
        refine th_x ?_
        refine bl_ne rfl ?_
        refine th_x ?_
        refine bl_eq ?_
        refine th_n ?_
        exact ⟨Sl.nil, 1, Has.mk (by kernel_rfl), h⟩
      · replace h := h.2 hc2
        refine wpE_skip ?_
        refine th_n ?_
        refine wpE_exit ?_
        refine bl_ne rfl ?_
        refine th_x ?_
        refine bl_ne rfl ?_
        refine th_x ?_
        refine bl_eq ?_
        refine th_n ?_
        refine wpE_seq ?_
        refine rg ?_
        refine q0 Sl.nil.v ?_
        refine q0 Sl.nil.v ?_
        refine wpL_nil ?_
        refine th_n ?_
        refine wpE_ret ?_
        refine res1 (.inl rfl) Try.results80 (v := Sl.nil.v) (by kernel_rfl) ?_
        exact ⟨Sl.nil, rfl, h⟩

def m_arbiter_fault_j3 (p1 : Addr) (p2 : Addr) (p3 : Addr) (p4 : Addr) (x3 : Bool) (w : World) (K : Int → Int → Int → Int → Int → World → Prop) : Prop :=
  Br x3
    (CanW w p4 ∧ ∀ w13 : World, w13 = w.setCell p4 (.int .i64 0) →
    CanW w13 (p4.add 2) ∧ ∀ w14 : World, w14 = w13.setCell (p4.add 2) (.int .i64 3) →
    ∃ vWho3 : Int, ∃ vC3 : Int, ∃ vKind3 : Int, ∃ vA3 : Int, ∃ vB3 : Int, Row w14 p4 [(.int .i64 vWho3), (.int .u64 vC3), (.int .i64 vKind3), (.int .i64 vA3), (.int .i64 vB3)] ∧
    (∀ j, j < 5 → CanW w14 (p3.add j)) ∧ ∀ w15 : World, w15 = storeRow w14 p3 [(.int .i64 vWho3), (.int .u64 vC3), (.int .i64 vKind3), (.int .i64 vA3), (.int .i64 vB3)] →
    ∃ qWho4 : Int, ∃ qC4 : Int, ∃ qKind4 : Int, ∃ qA4 : Int, ∃ qB4 : Int, Row w15 p3 [(.int .i64 qWho4), (.int .u64 qC4), (.int .i64 qKind4), (.int .i64 qA4), (.int .i64 qB4)] ∧
    K qWho4 qC4 qKind4 qA4 qB4 w15)
    (∃ vKind4 : Int, ∃ vFrom1 : Int, ∃ vC4 : Int, ∃ vText1 : ByteArray, ∃ vFake1 : Bool, Row w p2 [(.int .i64 vKind4), (.int .i64 vFrom1), (.int .u64 vC4), (.string vText1), (.bool vFake1)] ∧
    Calls Try.prog 131 #[(.agg #[(.int .i64 vKind4), (.int .i64 vFrom1), (.int .u64 vC4), (.string vText1), (.bool vFake1)])] w (fun e w16 => ∃ r1 : Bool, e = .returned (.bool r1) ∧ 
      Br r1
        (∃ v5 : Int, w16.cell? p1 = some (.int .i64 v5) ∧
        Br ((v5 : Int) == 3)
          (CanW w16 p4 ∧ ∀ w17 : World, w17 = w16.setCell p4 (.int .i64 0) →
          CanW w17 (p4.add 2) ∧ ∀ w18 : World, w18 = w17.setCell (p4.add 2) (.int .i64 3) →
          ∃ vWho4 : Int, ∃ vC5 : Int, ∃ vKind5 : Int, ∃ vA4 : Int, ∃ vB4 : Int, Row w18 p4 [(.int .i64 vWho4), (.int .u64 vC5), (.int .i64 vKind5), (.int .i64 vA4), (.int .i64 vB4)] ∧
          (∀ j, j < 5 → CanW w18 (p3.add j)) ∧ ∀ w19 : World, w19 = storeRow w18 p3 [(.int .i64 vWho4), (.int .u64 vC5), (.int .i64 vKind5), (.int .i64 vA4), (.int .i64 vB4)] →
          ∃ qWho5 : Int, ∃ qC5 : Int, ∃ qKind5 : Int, ∃ qA5 : Int, ∃ qB5 : Int, Row w19 p3 [(.int .i64 qWho5), (.int .u64 qC5), (.int .i64 qKind5), (.int .i64 qA5), (.int .i64 qB5)] ∧
          K qWho5 qC5 qKind5 qA5 qB5 w19)
          (∃ vWho5 : Int, ∃ vC6 : Int, ∃ vKind6 : Int, ∃ vA5 : Int, ∃ vB5 : Int, Row w16 p4 [(.int .i64 vWho5), (.int .u64 vC6), (.int .i64 vKind6), (.int .i64 vA5), (.int .i64 vB5)] ∧
          (∀ j, j < 5 → CanW w16 (p3.add j)) ∧ ∀ w20 : World, w20 = storeRow w16 p3 [(.int .i64 vWho5), (.int .u64 vC6), (.int .i64 vKind6), (.int .i64 vA5), (.int .i64 vB5)] →
          ∃ qWho6 : Int, ∃ qC6 : Int, ∃ qKind6 : Int, ∃ qA6 : Int, ∃ qB6 : Int, Row w20 p3 [(.int .i64 qWho6), (.int .u64 qC6), (.int .i64 qKind6), (.int .i64 qA6), (.int .i64 qB6)] ∧
          K qWho6 qC6 qKind6 qA6 qB6 w20))
        (∃ vWho6 : Int, ∃ vC7 : Int, ∃ vKind7 : Int, ∃ vA6 : Int, ∃ vB6 : Int, Row w16 p4 [(.int .i64 vWho6), (.int .u64 vC7), (.int .i64 vKind7), (.int .i64 vA6), (.int .i64 vB6)] ∧
        (∀ j, j < 5 → CanW w16 (p3.add j)) ∧ ∀ w21 : World, w21 = storeRow w16 p3 [(.int .i64 vWho6), (.int .u64 vC7), (.int .i64 vKind7), (.int .i64 vA6), (.int .i64 vB6)] →
        ∃ qWho7 : Int, ∃ qC7 : Int, ∃ qKind7 : Int, ∃ qA7 : Int, ∃ qB7 : Int, Row w21 p3 [(.int .i64 qWho7), (.int .u64 qC7), (.int .i64 qKind7), (.int .i64 qA7), (.int .i64 qB7)] ∧
        K qWho7 qC7 qKind7 qA7 qB7 w21)))
def m_arbiter_fault_j2 (p1 : Addr) (p2 : Addr) (p3 : Addr) (p4 : Addr) (x2 : Bool) (w : World) (K : Int → Int → Int → Int → Int → World → Prop) : Prop :=
  Br x2
    (CanW w p4 ∧ ∀ w10 : World, w10 = w.setCell p4 (.int .i64 2) →
    CanW w10 (p4.add 2) ∧ ∀ w11 : World, w11 = w10.setCell (p4.add 2) (.int .i64 2) →
    ∃ vWho2 : Int, ∃ vC2 : Int, ∃ vKind2 : Int, ∃ vA2 : Int, ∃ vB2 : Int, Row w11 p4 [(.int .i64 vWho2), (.int .u64 vC2), (.int .i64 vKind2), (.int .i64 vA2), (.int .i64 vB2)] ∧
    (∀ j, j < 5 → CanW w11 (p3.add j)) ∧ ∀ w12 : World, w12 = storeRow w11 p3 [(.int .i64 vWho2), (.int .u64 vC2), (.int .i64 vKind2), (.int .i64 vA2), (.int .i64 vB2)] →
    ∃ qWho3 : Int, ∃ qC3 : Int, ∃ qKind3 : Int, ∃ qA3 : Int, ∃ qB3 : Int, Row w12 p3 [(.int .i64 qWho3), (.int .u64 qC3), (.int .i64 qKind3), (.int .i64 qA3), (.int .i64 qB3)] ∧
    K qWho3 qC3 qKind3 qA3 qB3 w12)
    (∃ vKind8 : Int, ∃ vFrom2 : Int, ∃ vC8 : Int, ∃ vText2 : ByteArray, ∃ vFake2 : Bool, Row w p1 [(.int .i64 vKind8), (.int .i64 vFrom2), (.int .u64 vC8), (.string vText2), (.bool vFake2)] ∧
    Calls Try.prog 131 #[(.agg #[(.int .i64 vKind8), (.int .i64 vFrom2), (.int .u64 vC8), (.string vText2), (.bool vFake2)])] w (fun e w22 => ∃ r2 : Bool, e = .returned (.bool r2) ∧ 
      Br r2
        (∃ v6 : Int, w22.cell? p2 = some (.int .i64 v6) ∧
        m_arbiter_fault_j3 p1 p2 p3 p4 ((v6 : Int) == 3) w22 K)
        (m_arbiter_fault_j3 p1 p2 p3 p4 false w22 K)))
def m_arbiter_fault_j4 (p1 : Addr) (p2 : Addr) (p3 : Addr) (p4 : Addr) (x4 : Bool) (w : World) (K : Int → Int → Int → Int → Int → World → Prop) : Prop :=
  Br x4
    (∃ vKind10 : Int, ∃ vFrom4 : Int, ∃ vC10 : Int, ∃ vText4 : ByteArray, ∃ vFake4 : Bool, Row w p1 [(.int .i64 vKind10), (.int .i64 vFrom4), (.int .u64 vC10), (.string vText4), (.bool vFake4)] ∧
    ∃ vKind11 : Int, ∃ vFrom5 : Int, ∃ vC11 : Int, ∃ vText5 : ByteArray, ∃ vFake5 : Bool, Row w p2 [(.int .i64 vKind11), (.int .i64 vFrom5), (.int .u64 vC11), (.string vText5), (.bool vFake5)] ∧
    ∃ b1 : Bool, (Go.binOp .neq 132 (.agg #[(.int .i64 vKind10), (.int .i64 vFrom4), (.int .u64 vC10), (.string vText4), (.bool vFake4)]) (.agg #[(.int .i64 vKind11), (.int .i64 vFrom5), (.int .u64 vC11), (.string vText5), (.bool vFake5)])).run Try.prog w = .ok (.bool b1) w ∧
    m_arbiter_fault_j2 p1 p2 p3 p4 b1 w K)
    (m_arbiter_fault_j2 p1 p2 p3 p4 false w K)
def m_arbiter_fault_j1 (p1 : Addr) (p2 : Addr) (p3 : Addr) (p4 : Addr) (x1 : Bool) (w : World) (K : Int → Int → Int → Int → Int → World → Prop) : Prop :=
  Br x1
    (∃ v4 : Int, w.cell? (p1.add 1) = some (.int .i64 v4) ∧
    CanW w p4 ∧ ∀ w7 : World, w7 = w.setCell p4 (.int .i64 v4) →
    CanW w7 (p4.add 2) ∧ ∀ w8 : World, w8 = w7.setCell (p4.add 2) (.int .i64 1) →
    ∃ vWho1 : Int, ∃ vC1 : Int, ∃ vKind1 : Int, ∃ vA1 : Int, ∃ vB1 : Int, Row w8 p4 [(.int .i64 vWho1), (.int .u64 vC1), (.int .i64 vKind1), (.int .i64 vA1), (.int .i64 vB1)] ∧
    (∀ j, j < 5 → CanW w8 (p3.add j)) ∧ ∀ w9 : World, w9 = storeRow w8 p3 [(.int .i64 vWho1), (.int .u64 vC1), (.int .i64 vKind1), (.int .i64 vA1), (.int .i64 vB1)] →
    ∃ qWho2 : Int, ∃ qC2 : Int, ∃ qKind2 : Int, ∃ qA2 : Int, ∃ qB2 : Int, Row w9 p3 [(.int .i64 qWho2), (.int .u64 qC2), (.int .i64 qKind2), (.int .i64 qA2), (.int .i64 qB2)] ∧
    K qWho2 qC2 qKind2 qA2 qB2 w9)
    (∃ vKind9 : Int, ∃ vFrom3 : Int, ∃ vC9 : Int, ∃ vText3 : ByteArray, ∃ vFake3 : Bool, Row w p1 [(.int .i64 vKind9), (.int .i64 vFrom3), (.int .u64 vC9), (.string vText3), (.bool vFake3)] ∧
    Calls Try.prog 132 #[(.agg #[(.int .i64 vKind9), (.int .i64 vFrom3), (.int .u64 vC9), (.string vText3), (.bool vFake3)])] w (fun e w23 => ∃ r3 : Bool, e = .returned (.bool r3) ∧ 
      Br r3
        (∃ vKind12 : Int, ∃ vFrom6 : Int, ∃ vC12 : Int, ∃ vText6 : ByteArray, ∃ vFake6 : Bool, Row w23 p2 [(.int .i64 vKind12), (.int .i64 vFrom6), (.int .u64 vC12), (.string vText6), (.bool vFake6)] ∧
        Calls Try.prog 132 #[(.agg #[(.int .i64 vKind12), (.int .i64 vFrom6), (.int .u64 vC12), (.string vText6), (.bool vFake6)])] w23 (fun e w24 => ∃ r4 : Bool, e = .returned (.bool r4) ∧ 
          m_arbiter_fault_j4 p1 p2 p3 p4 r4 w24 K))
        (m_arbiter_fault_j4 p1 p2 p3 p4 false w23 K)))
def m_arbiter_fault_j6 (p1 : Addr) (p2 : Addr) (p3 : Addr) (p4 : Addr) (x6 : Bool) (w : World) (K : Int → Int → Int → Int → Int → World → Prop) : Prop :=
  Br x6
    (∃ v8 : ByteArray, w.cell? (p1.add 3) = some (.string v8) ∧
    ∃ v9 : ByteArray, w.cell? (p2.add 3) = some (.string v9) ∧
    m_arbiter_fault_j1 p1 p2 p3 p4 (!(decide (v8 = v9))) w K)
    (m_arbiter_fault_j1 p1 p2 p3 p4 false w K)
def m_arbiter_fault_j5 (p1 : Addr) (p2 : Addr) (p3 : Addr) (p4 : Addr) (x5 : Bool) (w : World) (K : Int → Int → Int → Int → Int → World → Prop) : Prop :=
  Br x5
    (∃ v10 : Int, w.cell? (p1.add 1) = some (.int .i64 v10) ∧
    ∃ v11 : Int, w.cell? (p2.add 1) = some (.int .i64 v11) ∧
    m_arbiter_fault_j6 p1 p2 p3 p4 ((v10 : Int) == v11) w K)
    (m_arbiter_fault_j6 p1 p2 p3 p4 false w K)
def m_arbiter_fault (aKind1 : Int) (aFrom1 : Int) (aC1 : Int) (aText1 : ByteArray) (aFake1 : Bool) (bKind1 : Int) (bFrom1 : Int) (bC1 : Int) (bText1 : ByteArray) (bFake1 : Bool) (w : World) (K : Int → Int → Int → Int → Int → World → Prop) : Prop :=
  ∀ (p1 : Addr) (w1 : World), New w (.cells #[(.int .i64 aKind1), (.int .i64 aFrom1), (.int .u64 aC1), (.string aText1), (.bool aFake1)] 132) p1 w1 →
  ∀ (p2 : Addr) (w2 : World), New w1 (.cells #[(.int .i64 bKind1), (.int .i64 bFrom1), (.int .u64 bC1), (.string bText1), (.bool bFake1)] 132) p2 w2 →
  ∀ (p3 : Addr) (w3 : World), New w2 (.cells #[(.int .i64 0), (.int .u64 0), (.int .i64 0), (.int .i64 0), (.int .i64 0)] 134) p3 w3 →
  ∃ v1 : Int, w3.cell? (p1.add 2) = some (.int .u64 v1) ∧
  ∀ (p4 : Addr) (w4 : World), New w3 (.cells #[(.int .i64 0), (.int .u64 0), (.int .i64 0), (.int .i64 0), (.int .i64 0)] 134) p4 w4 →
  (∀ j, j < 5 → CanW w4 (p4.add j)) ∧ ∀ w5 : World, w5 = storeRow w4 p4 [(.int .i64 0), (.int .u64 v1), (.int .i64 0), (.int .i64 0), (.int .i64 0)] →
  ∃ v2 : Int, w5.cell? (p1.add 2) = some (.int .u64 v2) ∧
  ∃ v3 : Int, w5.cell? (p2.add 2) = some (.int .u64 v3) ∧
  Br ((v2 : Int) != v3)
    ((∀ j, j < 5 → CanW w5 (p3.add j)) ∧ ∀ w6 : World, w6 = storeRow w5 p3 [(.int .i64 0), (.int .u64 0), (.int .i64 0), (.int .i64 0), (.int .i64 0)] →
    ∃ qWho1 : Int, ∃ qC1 : Int, ∃ qKind1 : Int, ∃ qA1 : Int, ∃ qB1 : Int, Row w6 p3 [(.int .i64 qWho1), (.int .u64 qC1), (.int .i64 qKind1), (.int .i64 qA1), (.int .i64 qB1)] ∧
    K qWho1 qC1 qKind1 qA1 qB1 w6)
    (∃ v7 : Int, w5.cell? p1 = some (.int .i64 v7) ∧
    Br ((v7 : Int) == 2)
      (∃ v12 : Int, w5.cell? p2 = some (.int .i64 v12) ∧
      m_arbiter_fault_j5 p1 p2 p3 p4 ((v12 : Int) == 2) w5 K)
      (m_arbiter_fault_j5 p1 p2 p3 p4 false w5 K))
set_option maxRecDepth 100000 in
set_option maxHeartbeats 4000000 in
theorem w_arbiter_fault (aKind1 : Int) (aFrom1 : Int) (aC1 : Int) (aText1 : ByteArray) (aFake1 : Bool) (bKind1 : Int) (bFrom1 : Int) (bC1 : Int) (bText1 : ByteArray) (bFake1 : Bool) (w : World) (K : Int → Int → Int → Int → Int → World → Prop) (h : m_arbiter_fault aKind1 aFrom1 aC1 aText1 aFake1 bKind1 bFrom1 bC1 bText1 bFake1 w K) :
    Calls Try.prog 82 #[(.agg #[(.int .i64 aKind1), (.int .i64 aFrom1), (.int .u64 aC1), (.string aText1), (.bool aFake1)]), (.agg #[(.int .i64 bKind1), (.int .i64 bFrom1), (.int .u64 bC1), (.string bText1), (.bool bFake1)])] w (fun e w' => ∃ rWho1 : Int, ∃ rC1 : Int, ∃ rKind1 : Int, ∃ rA1 : Int, ∃ rB1 : Int, e = .returned (.agg #[(.int .i64 rWho1), (.int .u64 rC1), (.int .i64 rKind1), (.int .i64 rA1), (.int .i64 rB1)]) ∧ K rWho1 rC1 rKind1 rA1 rB1 w') := by
  unfold m_arbiter_fault at h
  refine calls_of_wpE (args := [(.agg #[(.int .i64 aKind1), (.int .i64 aFrom1), (.int .u64 aC1), (.string aText1), (.bool aFake1)]), (.agg #[(.int .i64 bKind1), (.int .i64 bFrom1), (.int .u64 bC1), (.string bText1), (.bool bFake1)])]) Try.func82 rfl Try.ntmps82 (Nat.le_of_ble_eq_true rfl) ?_
  refine wpE_seq ?_
  refine rg ?_
  refine st_new (O := (.cells #[(.int .i64 aKind1), (.int .i64 aFrom1), (.int .u64 aC1), (.string aText1), (.bool aFake1)] 132)) (fun p => .pointer (some p)) (want0 rfl) (x_box (cs := #[(.int .i64 aKind1), (.int .i64 aFrom1), (.int .u64 aC1), (.string aText1), (.bool aFake1)]) (by kernel_rfl)) ?_
  intro p1 w1 hn20
  replace h := h p1 w1 hn20
  refine st_new (O := (.cells #[(.int .i64 bKind1), (.int .i64 bFrom1), (.int .u64 bC1), (.string bText1), (.bool bFake1)] 132)) (fun p => .pointer (some p)) (want0 rfl) (x_box (cs := #[(.int .i64 bKind1), (.int .i64 bFrom1), (.int .u64 bC1), (.string bText1), (.bool bFake1)]) (by kernel_rfl)) ?_
  intro p2 w2 hn19
  replace h := h p2 w2 hn19
  refine st_new (O := (.cells #[(.int .i64 0), (.int .u64 0), (.int .i64 0), (.int .i64 0), (.int .i64 0)] 134)) (fun p => .pointer (some p)) (want0 rfl) (x_alloc (Try.zeroValue134 _) rfl) ?_
  intro p3 w3 hn18
  replace h := h p3 w3 hn18
  refine wpL_nil ?_
  refine th_n ?_
  refine wpE_seq ?_
  refine rg ?_
  refine q0 (.pointer (some (p1.add 2))) ?_
  obtain ⟨v1, hv32, h⟩ := h
  refine q2 (.int .u64 v1) (x_load (a := (p1.add 2)) (by kernel_rfl) (Try.isAgg38 _) hv32) ?_
  refine q0 (.agg #[(.int .i64 0), (.int .u64 v1), (.int .i64 0), (.int .i64 0), (.int .i64 0)]) ?_
  refine st_new (O := (.cells #[(.int .i64 0), (.int .u64 0), (.int .i64 0), (.int .i64 0), (.int .i64 0)] 134)) (fun p => .pointer (some p)) (want0 rfl) (x_alloc (Try.zeroValue134 _) rfl) ?_
  intro p4 w4 hn17
  replace h := h p4 w4 hn17
  obtain ⟨hp1, h⟩ := h
  refine st_set (want0 rfl) (x_storeA (a := p4) (vs := [(.int .i64 0), (.int .u64 v1), (.int .i64 0), (.int .i64 0), (.int .i64 0)]) (by kernel_rfl) (by kernel_rfl) rfl (Try.sizeOf134 _) rfl hp1) ?_
  intro w5 hn1
  replace h := h w5 hn1
  refine wpL_nil ?_
  refine th_n ?_
  refine wpE_seq ?_
  refine wpE_seq ?_
  refine rg ?_
  refine q0 (.pointer (some (p1.add 2))) ?_
  obtain ⟨v2, hv31, h⟩ := h
  refine q2 (.int .u64 v2) (x_load (a := (p1.add 2)) (by kernel_rfl) (Try.isAgg38 _) hv31) ?_
  refine q0 (.pointer (some (p2.add 2))) ?_
  obtain ⟨v3, hv30, h⟩ := h
  refine q2 (.int .u64 v3) (x_load (a := (p2.add 2)) (by kernel_rfl) (Try.isAgg38 _) hv30) ?_
  refine q0 (.bool ((v2 : Int) != v3)) ?_
  refine wpL_nil ?_
  refine th_n ?_
  refine wpE_cond (t := ((v2 : Int) != v3)) (by kernel_rfl) (fun hc1 => ?_) (fun hc1 => ?_)
  · replace h := h.1 hc1
    refine wpE_seq ?_
    refine rg ?_
    refine q0 (.agg #[(.int .i64 0), (.int .u64 0), (.int .i64 0), (.int .i64 0), (.int .i64 0)]) ?_
    obtain ⟨hp2, h⟩ := h
    refine st_set (want0 rfl) (x_storeA (a := p3) (vs := [(.int .i64 0), (.int .u64 0), (.int .i64 0), (.int .i64 0), (.int .i64 0)]) (by kernel_rfl) (by kernel_rfl) rfl (Try.sizeOf134 _) rfl hp2) ?_
    intro w6 hn2
    replace h := h w6 hn2
    refine wpL_nil ?_
    refine th_n ?_
    refine wpE_ret ?_
    refine th_r ?_
    obtain ⟨qWho1, qC1, qKind1, qA1, qB1, hv1, h⟩ := h
    refine resG (.inl rfl) (rs := [.cell 4 134]) (vs := [(.agg #[(.int .i64 qWho1), (.int .u64 qC1), (.int .i64 qKind1), (.int .i64 qA1), (.int .i64 qB1)])]) (v := (.agg #[(.int .i64 qWho1), (.int .u64 qC1), (.int .i64 qKind1), (.int .i64 qA1), (.int .i64 qB1)])) Try.results82 ⟨(RV.cellA (A := p3) (vs := [(.int .i64 qWho1), (.int .u64 qC1), (.int .i64 qKind1), (.int .i64 qA1), (.int .i64 qB1)]) (by kernel_rfl) (Try.isAgg134 _) (Try.sizeOf134 _) rfl hv1), trivial⟩ (by kernel_rfl) ?_
    exact ⟨qWho1, qC1, qKind1, qA1, qB1, rfl, h⟩
  · replace h := h.2 hc1
    refine wpE_skip ?_
    refine th_n ?_
    refine wpE_seq ?_
    refine rg ?_
    refine q0 (.func (.func 131) #[] #[]) ?_
    refine wpL_nil ?_
    refine th_n ?_
    refine wpE_seq ?_
    refine wpE_block ?_
    refine wpE_join (fun ρ w => ∃ x1 : Bool, Has ρ [(2, (.pointer (some p1))), (3, (.pointer (some p2))), (4, (.pointer (some p3))), (5, (.pointer (some p4))), (6, (.func (.func 131) #[] #[])), (16, (.bool x1))] ∧ m_arbiter_fault_j1 p1 p2 p3 p4 x1 w K) ?_ ?_
    · rintro ρ w ⟨x1, hH, h⟩
      unfold m_arbiter_fault_j1 at h
      refine wpE_has hH ?_
      clear hH
      refine wpE_cond (t := x1) (by kernel_rfl) (fun hc2 => ?_) (fun hc2 => ?_)
      · replace h := h.1 hc2
        refine rg ?_
        refine q0 (.pointer (some (p1.add 1))) ?_
        obtain ⟨v4, hv4, h⟩ := h
        refine q2 (.int .i64 v4) (x_load (a := (p1.add 1)) (by kernel_rfl) (Try.isAgg3 _) hv4) ?_
        refine q0 (.pointer (some p4)) ?_
        obtain ⟨hp3, h⟩ := h
        refine st_set (want0 rfl) (x_store (a := p4) (v := (.int .i64 v4)) (by kernel_rfl) (by kernel_rfl) rfl (Try.sizeOf3 _) hp3) ?_
        intro w7 hn3
        replace h := h w7 hn3
        refine q0 (.pointer (some (p4.add 2))) ?_
        obtain ⟨hp4, h⟩ := h
        refine st_set (want0 rfl) (x_store (a := (p4.add 2)) (v := (.int .i64 1)) (by kernel_rfl) (by kernel_rfl) rfl (Try.sizeOf3 _) hp4) ?_
        intro w8 hn4
        replace h := h w8 hn4
        refine wpL_nil ?_
        refine bl_n ?_
        refine th_n ?_
        refine wpE_seq ?_
        refine rg ?_
        obtain ⟨vWho1, vC1, vKind1, vA1, vB1, hv3, h⟩ := h
        refine q2 (.agg #[(.int .i64 vWho1), (.int .u64 vC1), (.int .i64 vKind1), (.int .i64 vA1), (.int .i64 vB1)]) (x_loadA (a := p4) (vs := [(.int .i64 vWho1), (.int .u64 vC1), (.int .i64 vKind1), (.int .i64 vA1), (.int .i64 vB1)]) (by kernel_rfl) (Try.isAgg134 _) (Try.sizeOf134 _) rfl hv3) ?_
        obtain ⟨hp5, h⟩ := h
        refine st_set (want0 rfl) (x_storeA (a := p3) (vs := [(.int .i64 vWho1), (.int .u64 vC1), (.int .i64 vKind1), (.int .i64 vA1), (.int .i64 vB1)]) (by kernel_rfl) (by kernel_rfl) rfl (Try.sizeOf134 _) rfl hp5) ?_
        intro w9 hn5
        replace h := h w9 hn5
        refine wpL_nil ?_
        refine th_n ?_
        refine wpE_ret ?_
        obtain ⟨qWho2, qC2, qKind2, qA2, qB2, hv2, h⟩ := h
        refine resG (.inl rfl) (rs := [.cell 4 134]) (vs := [(.agg #[(.int .i64 qWho2), (.int .u64 qC2), (.int .i64 qKind2), (.int .i64 qA2), (.int .i64 qB2)])]) (v := (.agg #[(.int .i64 qWho2), (.int .u64 qC2), (.int .i64 qKind2), (.int .i64 qA2), (.int .i64 qB2)])) Try.results82 ⟨(RV.cellA (A := p3) (vs := [(.int .i64 qWho2), (.int .u64 qC2), (.int .i64 qKind2), (.int .i64 qA2), (.int .i64 qB2)]) (by kernel_rfl) (Try.isAgg134 _) (Try.sizeOf134 _) rfl hv2), trivial⟩ (by kernel_rfl) ?_
        exact ⟨qWho2, qC2, qKind2, qA2, qB2, rfl, h⟩
      · replace h := h.2 hc2
        refine wpE_join (fun ρ w => ∃ x2 : Bool, Has ρ [(2, (.pointer (some p1))), (3, (.pointer (some p2))), (4, (.pointer (some p3))), (5, (.pointer (some p4))), (6, (.func (.func 131) #[] #[])), (43, (.bool x2))] ∧ m_arbiter_fault_j2 p1 p2 p3 p4 x2 w K) ?_ ?_
        · rintro ρ w ⟨x2, hH, h⟩
          unfold m_arbiter_fault_j2 at h
          refine wpE_has hH ?_
          clear hH
          refine wpE_cond (t := x2) (by kernel_rfl) (fun hc3 => ?_) (fun hc3 => ?_)
          · replace h := h.1 hc3
            refine rg ?_
            refine q0 (.pointer (some p4)) ?_
            obtain ⟨hp6, h⟩ := h
            refine st_set (want0 rfl) (x_store (a := p4) (v := (.int .i64 2)) (by kernel_rfl) (by kernel_rfl) rfl (Try.sizeOf3 _) hp6) ?_
            intro w10 hn6
            replace h := h w10 hn6
            refine q0 (.pointer (some (p4.add 2))) ?_
            obtain ⟨hp7, h⟩ := h
            refine st_set (want0 rfl) (x_store (a := (p4.add 2)) (v := (.int .i64 2)) (by kernel_rfl) (by kernel_rfl) rfl (Try.sizeOf3 _) hp7) ?_
            intro w11 hn7
            replace h := h w11 hn7
            refine wpL_nil ?_
            refine bl_n ?_
            refine th_n ?_
            refine wpE_seq ?_
            refine rg ?_
            obtain ⟨vWho2, vC2, vKind2, vA2, vB2, hv6, h⟩ := h
            refine q2 (.agg #[(.int .i64 vWho2), (.int .u64 vC2), (.int .i64 vKind2), (.int .i64 vA2), (.int .i64 vB2)]) (x_loadA (a := p4) (vs := [(.int .i64 vWho2), (.int .u64 vC2), (.int .i64 vKind2), (.int .i64 vA2), (.int .i64 vB2)]) (by kernel_rfl) (Try.isAgg134 _) (Try.sizeOf134 _) rfl hv6) ?_
            obtain ⟨hp8, h⟩ := h
            refine st_set (want0 rfl) (x_storeA (a := p3) (vs := [(.int .i64 vWho2), (.int .u64 vC2), (.int .i64 vKind2), (.int .i64 vA2), (.int .i64 vB2)]) (by kernel_rfl) (by kernel_rfl) rfl (Try.sizeOf134 _) rfl hp8) ?_
            intro w12 hn8
            replace h := h w12 hn8
            refine wpL_nil ?_
            refine th_n ?_
            refine wpE_ret ?_
            obtain ⟨qWho3, qC3, qKind3, qA3, qB3, hv5, h⟩ := h
            refine resG (.inl rfl) (rs := [.cell 4 134]) (vs := [(.agg #[(.int .i64 qWho3), (.int .u64 qC3), (.int .i64 qKind3), (.int .i64 qA3), (.int .i64 qB3)])]) (v := (.agg #[(.int .i64 qWho3), (.int .u64 qC3), (.int .i64 qKind3), (.int .i64 qA3), (.int .i64 qB3)])) Try.results82 ⟨(RV.cellA (A := p3) (vs := [(.int .i64 qWho3), (.int .u64 qC3), (.int .i64 qKind3), (.int .i64 qA3), (.int .i64 qB3)]) (by kernel_rfl) (Try.isAgg134 _) (Try.sizeOf134 _) rfl hv5), trivial⟩ (by kernel_rfl) ?_
            exact ⟨qWho3, qC3, qKind3, qA3, qB3, rfl, h⟩
          · replace h := h.2 hc3
            refine wpE_seq ?_
            refine wpE_join (fun ρ w => ∃ x3 : Bool, Has ρ [(2, (.pointer (some p1))), (3, (.pointer (some p2))), (4, (.pointer (some p3))), (5, (.pointer (some p4))), (6, (.func (.func 131) #[] #[])), (57, (.bool x3))] ∧ m_arbiter_fault_j3 p1 p2 p3 p4 x3 w K) ?_ ?_
            · rintro ρ w ⟨x3, hH, h⟩
              unfold m_arbiter_fault_j3 at h
              refine wpE_has hH ?_
              clear hH
              refine wpE_cond (t := x3) (by kernel_rfl) (fun hc4 => ?_) (fun hc4 => ?_)
              · replace h := h.1 hc4
                refine wpE_skip ?_
                refine th_n ?_
                refine wpE_condT' (t := x3) (by kernel_rfl) hc4 ?_
                refine rg ?_
                refine q0 (.pointer (some p4)) ?_
                obtain ⟨hp9, h⟩ := h
                refine st_set (want0 rfl) (x_store (a := p4) (v := (.int .i64 0)) (by kernel_rfl) (by kernel_rfl) rfl (Try.sizeOf3 _) hp9) ?_
                intro w13 hn9
                replace h := h w13 hn9
                refine q0 (.pointer (some (p4.add 2))) ?_
                obtain ⟨hp10, h⟩ := h
                refine st_set (want0 rfl) (x_store (a := (p4.add 2)) (v := (.int .i64 3)) (by kernel_rfl) (by kernel_rfl) rfl (Try.sizeOf3 _) hp10) ?_
                intro w14 hn10
                replace h := h w14 hn10
                refine wpL_nil ?_
                refine bl_n ?_
                refine th_n ?_
                refine wpE_seq ?_
                refine rg ?_
                obtain ⟨vWho3, vC3, vKind3, vA3, vB3, hv8, h⟩ := h
                refine q2 (.agg #[(.int .i64 vWho3), (.int .u64 vC3), (.int .i64 vKind3), (.int .i64 vA3), (.int .i64 vB3)]) (x_loadA (a := p4) (vs := [(.int .i64 vWho3), (.int .u64 vC3), (.int .i64 vKind3), (.int .i64 vA3), (.int .i64 vB3)]) (by kernel_rfl) (Try.isAgg134 _) (Try.sizeOf134 _) rfl hv8) ?_
                obtain ⟨hp11, h⟩ := h
                refine st_set (want0 rfl) (x_storeA (a := p3) (vs := [(.int .i64 vWho3), (.int .u64 vC3), (.int .i64 vKind3), (.int .i64 vA3), (.int .i64 vB3)]) (by kernel_rfl) (by kernel_rfl) rfl (Try.sizeOf134 _) rfl hp11) ?_
                intro w15 hn11
                replace h := h w15 hn11
                refine wpL_nil ?_
                refine th_n ?_
                refine wpE_ret ?_
                obtain ⟨qWho4, qC4, qKind4, qA4, qB4, hv7, h⟩ := h
                refine resG (.inl rfl) (rs := [.cell 4 134]) (vs := [(.agg #[(.int .i64 qWho4), (.int .u64 qC4), (.int .i64 qKind4), (.int .i64 qA4), (.int .i64 qB4)])]) (v := (.agg #[(.int .i64 qWho4), (.int .u64 qC4), (.int .i64 qKind4), (.int .i64 qA4), (.int .i64 qB4)])) Try.results82 ⟨(RV.cellA (A := p3) (vs := [(.int .i64 qWho4), (.int .u64 qC4), (.int .i64 qKind4), (.int .i64 qA4), (.int .i64 qB4)]) (by kernel_rfl) (Try.isAgg134 _) (Try.sizeOf134 _) rfl hv7), trivial⟩ (by kernel_rfl) ?_
                exact ⟨qWho4, qC4, qKind4, qA4, qB4, rfl, h⟩
              · replace h := h.2 hc4
                refine rg ?_
                refine q0 (.func (.func 131) #[] #[]) ?_
                obtain ⟨vKind4, vFrom1, vC4, vText1, vFake1, hv16, h⟩ := h
                refine q2 (.agg #[(.int .i64 vKind4), (.int .i64 vFrom1), (.int .u64 vC4), (.string vText1), (.bool vFake1)]) (x_loadA (a := p2) (vs := [(.int .i64 vKind4), (.int .i64 vFrom1), (.int .u64 vC4), (.string vText1), (.bool vFake1)]) (by kernel_rfl) (Try.isAgg132 _) (Try.sizeOf132 _) rfl hv16) ?_
                refine st_call (want0 rfl) (x_callm (fs := #[]) (caps := #[]) (args := #[(.agg #[(.int .i64 vKind4), (.int .i64 vFrom1), (.int .u64 vC4), (.string vText1), (.bool vFake1)])]) (args' := #[(.agg #[(.int .i64 vKind4), (.int .i64 vFrom1), (.int .u64 vC4), (.string vText1), (.bool vFake1)])]) (by kernel_rfl) Try.call131 (by kernel_rfl) (by kernel_rfl)) (h.mono ?_)
                clear h
                rintro e w16 ⟨r1, rfl, h⟩
                refine ⟨_, rfl, ?_⟩
                refine q0 (.bool r1) ?_
                rcases Bool.eq_false_or_eq_true r1 with hg1 | hg1
                · replace h := h.1 hg1
                  refine q1 (.pointer (some p1)) (want1 rfl (yD 69 hg1)) ?_
                  obtain ⟨v5, hv13, h⟩ := h
                  refine stp (v := (.int .i64 v5)) (want1 rfl (yD 69 hg1)) (x_load (a := p1) (by kernel_rfl) (Try.isAgg3 _) hv13) ?_
                  refine q1 (.bool ((v5 : Int) == 3)) (want1 rfl (yD 69 hg1)) ?_
                  refine q2 (.bool ((v5 : Int) == 3)) (x_pickT (b := r1) (by kernel_rfl) hg1 (by kernel_rfl)) ?_
                  refine q0 (.bool ((v5 : Int) == 3)) ?_
                  refine wpL_nil ?_
                  refine th_n ?_
                  refine wpE_cond (t := ((v5 : Int) == 3)) (by kernel_rfl) (fun hc5 => ?_) (fun hc5 => ?_)
                  · replace h := h.1 hc5
                    refine rg ?_
                    refine q0 (.pointer (some p4)) ?_
                    obtain ⟨hp12, h⟩ := h
                    refine st_set (want0 rfl) (x_store (a := p4) (v := (.int .i64 0)) (by kernel_rfl) (by kernel_rfl) rfl (Try.sizeOf3 _) hp12) ?_
                    intro w17 hn12
                    replace h := h w17 hn12
                    refine q0 (.pointer (some (p4.add 2))) ?_
                    obtain ⟨hp13, h⟩ := h
                    refine st_set (want0 rfl) (x_store (a := (p4.add 2)) (v := (.int .i64 3)) (by kernel_rfl) (by kernel_rfl) rfl (Try.sizeOf3 _) hp13) ?_
                    intro w18 hn13
                    replace h := h w18 hn13
                    refine wpL_nil ?_
                    refine bl_n ?_
                    refine th_n ?_
                    refine wpE_seq ?_
                    refine rg ?_
                    obtain ⟨vWho4, vC5, vKind5, vA4, vB4, hv10, h⟩ := h
                    refine q2 (.agg #[(.int .i64 vWho4), (.int .u64 vC5), (.int .i64 vKind5), (.int .i64 vA4), (.int .i64 vB4)]) (x_loadA (a := p4) (vs := [(.int .i64 vWho4), (.int .u64 vC5), (.int .i64 vKind5), (.int .i64 vA4), (.int .i64 vB4)]) (by kernel_rfl) (Try.isAgg134 _) (Try.sizeOf134 _) rfl hv10) ?_
                    obtain ⟨hp14, h⟩ := h
                    refine st_set (want0 rfl) (x_storeA (a := p3) (vs := [(.int .i64 vWho4), (.int .u64 vC5), (.int .i64 vKind5), (.int .i64 vA4), (.int .i64 vB4)]) (by kernel_rfl) (by kernel_rfl) rfl (Try.sizeOf134 _) rfl hp14) ?_
                    intro w19 hn14
                    replace h := h w19 hn14
                    refine wpL_nil ?_
                    refine th_n ?_
                    refine wpE_ret ?_
                    obtain ⟨qWho5, qC5, qKind5, qA5, qB5, hv9, h⟩ := h
                    refine resG (.inl rfl) (rs := [.cell 4 134]) (vs := [(.agg #[(.int .i64 qWho5), (.int .u64 qC5), (.int .i64 qKind5), (.int .i64 qA5), (.int .i64 qB5)])]) (v := (.agg #[(.int .i64 qWho5), (.int .u64 qC5), (.int .i64 qKind5), (.int .i64 qA5), (.int .i64 qB5)])) Try.results82 ⟨(RV.cellA (A := p3) (vs := [(.int .i64 qWho5), (.int .u64 qC5), (.int .i64 qKind5), (.int .i64 qA5), (.int .i64 qB5)]) (by kernel_rfl) (Try.isAgg134 _) (Try.sizeOf134 _) rfl hv9), trivial⟩ (by kernel_rfl) ?_
                    exact ⟨qWho5, qC5, qKind5, qA5, qB5, rfl, h⟩
                  · replace h := h.2 hc5
                    refine wpE_skip ?_
                    refine bl_n ?_
                    refine th_n ?_
                    refine wpE_seq ?_
                    refine rg ?_
                    obtain ⟨vWho5, vC6, vKind6, vA5, vB5, hv12, h⟩ := h
                    refine q2 (.agg #[(.int .i64 vWho5), (.int .u64 vC6), (.int .i64 vKind6), (.int .i64 vA5), (.int .i64 vB5)]) (x_loadA (a := p4) (vs := [(.int .i64 vWho5), (.int .u64 vC6), (.int .i64 vKind6), (.int .i64 vA5), (.int .i64 vB5)]) (by kernel_rfl) (Try.isAgg134 _) (Try.sizeOf134 _) rfl hv12) ?_
                    obtain ⟨hp15, h⟩ := h
                    refine st_set (want0 rfl) (x_storeA (a := p3) (vs := [(.int .i64 vWho5), (.int .u64 vC6), (.int .i64 vKind6), (.int .i64 vA5), (.int .i64 vB5)]) (by kernel_rfl) (by kernel_rfl) rfl (Try.sizeOf134 _) rfl hp15) ?_
                    intro w20 hn15
                    replace h := h w20 hn15
                    refine wpL_nil ?_
                    refine th_n ?_
                    refine wpE_ret ?_
                    obtain ⟨qWho6, qC6, qKind6, qA6, qB6, hv11, h⟩ := h
                    refine resG (.inl rfl) (rs := [.cell 4 134]) (vs := [(.agg #[(.int .i64 qWho6), (.int .u64 qC6), (.int .i64 qKind6), (.int .i64 qA6), (.int .i64 qB6)])]) (v := (.agg #[(.int .i64 qWho6), (.int .u64 qC6), (.int .i64 qKind6), (.int .i64 qA6), (.int .i64 qB6)])) Try.results82 ⟨(RV.cellA (A := p3) (vs := [(.int .i64 qWho6), (.int .u64 qC6), (.int .i64 qKind6), (.int .i64 qA6), (.int .i64 qB6)]) (by kernel_rfl) (Try.isAgg134 _) (Try.sizeOf134 _) rfl hv11), trivial⟩ (by kernel_rfl) ?_
                    exact ⟨qWho6, qC6, qKind6, qA6, qB6, rfl, h⟩
                · replace h := h.2 hg1
                  refine st_not (unwant rfl (yD 69 hg1) rfl) ?_
                  refine st_not (unwant rfl (yD 69 hg1) rfl) ?_
                  refine st_not (unwant rfl (yD 69 hg1) rfl) ?_
                  refine q2 (.bool false) (x_pickF (b := r1) (by kernel_rfl) hg1 (by kernel_rfl)) ?_
                  refine q0 (.bool false) ?_
                  refine wpL_nil ?_
                  refine th_n ?_
                  refine wpE_condF (by kernel_rfl) ?_
                  refine wpE_skip ?_
                  refine bl_n ?_
                  refine th_n ?_
                  refine wpE_seq ?_
                  refine rg ?_
                  obtain ⟨vWho6, vC7, vKind7, vA6, vB6, hv15, h⟩ := h
                  refine q2 (.agg #[(.int .i64 vWho6), (.int .u64 vC7), (.int .i64 vKind7), (.int .i64 vA6), (.int .i64 vB6)]) (x_loadA (a := p4) (vs := [(.int .i64 vWho6), (.int .u64 vC7), (.int .i64 vKind7), (.int .i64 vA6), (.int .i64 vB6)]) (by kernel_rfl) (Try.isAgg134 _) (Try.sizeOf134 _) rfl hv15) ?_
                  obtain ⟨hp16, h⟩ := h
                  refine st_set (want0 rfl) (x_storeA (a := p3) (vs := [(.int .i64 vWho6), (.int .u64 vC7), (.int .i64 vKind7), (.int .i64 vA6), (.int .i64 vB6)]) (by kernel_rfl) (by kernel_rfl) rfl (Try.sizeOf134 _) rfl hp16) ?_
                  intro w21 hn16
                  replace h := h w21 hn16
                  refine wpL_nil ?_
                  refine th_n ?_
                  refine wpE_ret ?_
                  obtain ⟨qWho7, qC7, qKind7, qA7, qB7, hv14, h⟩ := h
                  refine resG (.inl rfl) (rs := [.cell 4 134]) (vs := [(.agg #[(.int .i64 qWho7), (.int .u64 qC7), (.int .i64 qKind7), (.int .i64 qA7), (.int .i64 qB7)])]) (v := (.agg #[(.int .i64 qWho7), (.int .u64 qC7), (.int .i64 qKind7), (.int .i64 qA7), (.int .i64 qB7)])) Try.results82 ⟨(RV.cellA (A := p3) (vs := [(.int .i64 qWho7), (.int .u64 qC7), (.int .i64 qKind7), (.int .i64 qA7), (.int .i64 qB7)]) (by kernel_rfl) (Try.isAgg134 _) (Try.sizeOf134 _) rfl hv14), trivial⟩ (by kernel_rfl) ?_
                  exact ⟨qWho7, qC7, qKind7, qA7, qB7, rfl, h⟩
            · skip
              refine rg ?_
              refine q0 (.func (.func 131) #[] #[]) ?_
              obtain ⟨vKind8, vFrom2, vC8, vText2, vFake2, hv18, h⟩ := h
              refine q2 (.agg #[(.int .i64 vKind8), (.int .i64 vFrom2), (.int .u64 vC8), (.string vText2), (.bool vFake2)]) (x_loadA (a := p1) (vs := [(.int .i64 vKind8), (.int .i64 vFrom2), (.int .u64 vC8), (.string vText2), (.bool vFake2)]) (by kernel_rfl) (Try.isAgg132 _) (Try.sizeOf132 _) rfl hv18) ?_
              refine st_call (want0 rfl) (x_callm (fs := #[]) (caps := #[]) (args := #[(.agg #[(.int .i64 vKind8), (.int .i64 vFrom2), (.int .u64 vC8), (.string vText2), (.bool vFake2)])]) (args' := #[(.agg #[(.int .i64 vKind8), (.int .i64 vFrom2), (.int .u64 vC8), (.string vText2), (.bool vFake2)])]) (by kernel_rfl) Try.call131 (by kernel_rfl) (by kernel_rfl)) (h.mono ?_)
              clear h
              rintro e w22 ⟨r2, rfl, h⟩
              refine ⟨_, rfl, ?_⟩
              refine q0 (.bool r2) ?_
              rcases Bool.eq_false_or_eq_true r2 with hg2 | hg2
              · replace h := h.1 hg2
                refine q1 (.pointer (some p2)) (want1 rfl (yD 61 hg2)) ?_
                obtain ⟨v6, hv17, h⟩ := h
                refine stp (v := (.int .i64 v6)) (want1 rfl (yD 61 hg2)) (x_load (a := p2) (by kernel_rfl) (Try.isAgg3 _) hv17) ?_
                refine q1 (.bool ((v6 : Int) == 3)) (want1 rfl (yD 61 hg2)) ?_
                refine q2 (.bool ((v6 : Int) == 3)) (x_pickT (b := r2) (by kernel_rfl) hg2 (by kernel_rfl)) ?_
                refine q0 (.bool ((v6 : Int) == 3)) ?_
                refine wpL_nil ?_
                refine th_n ?_
                exact ⟨((v6 : Int) == 3), Has.mk (by kernel_rfl), h⟩
              · replace h := h.2 hg2
                refine st_not (unwant rfl (yD 61 hg2) rfl) ?_
                refine st_not (unwant rfl (yD 61 hg2) rfl) ?_
                refine st_not (unwant rfl (yD 61 hg2) rfl) ?_
                refine q2 (.bool false) (x_pickF (b := r2) (by kernel_rfl) hg2 (by kernel_rfl)) ?_
                refine q0 (.bool false) ?_
                refine wpL_nil ?_
                refine th_n ?_
                exact ⟨false, Has.mk (by kernel_rfl), h⟩
        · skip
          refine rg ?_
          obtain ⟨vKind9, vFrom3, vC9, vText3, vFake3, hv23, h⟩ := h
          refine q2 (.agg #[(.int .i64 vKind9), (.int .i64 vFrom3), (.int .u64 vC9), (.string vText3), (.bool vFake3)]) (x_loadA (a := p1) (vs := [(.int .i64 vKind9), (.int .i64 vFrom3), (.int .u64 vC9), (.string vText3), (.bool vFake3)]) (by kernel_rfl) (Try.isAgg132 _) (Try.sizeOf132 _) rfl hv23) ?_
          refine st_call (want0 rfl) (x_callE (args := #[(.agg #[(.int .i64 vKind9), (.int .i64 vFrom3), (.int .u64 vC9), (.string vText3), (.bool vFake3)])]) Try.call132 (by kernel_rfl)) (h.mono ?_)
          clear h
          rintro e w23 ⟨r3, rfl, h⟩
          refine ⟨_, rfl, ?_⟩
          refine q0 (.bool r3) ?_
          refine wpL_join 3 (fun ρ w => ∃ x4 : Bool, Has ρ [(2, (.pointer (some p1))), (3, (.pointer (some p2))), (4, (.pointer (some p3))), (5, (.pointer (some p4))), (6, (.func (.func 131) #[] #[])), (49, (.bool x4))] ∧ m_arbiter_fault_j4 p1 p2 p3 p4 x4 w K) ?_ ?_
          · rintro ρ w ⟨x4, hH, h⟩
            unfold m_arbiter_fault_j4 at h
            refine wpL_has hH ?_
            clear hH
            refine q0 (.bool x4) ?_
            rcases Bool.eq_false_or_eq_true x4 with hg3 | hg3
            · replace h := h.1 hg3
              obtain ⟨vKind10, vFrom4, vC10, vText4, vFake4, hv21, h⟩ := h
              refine stp (v := (.agg #[(.int .i64 vKind10), (.int .i64 vFrom4), (.int .u64 vC10), (.string vText4), (.bool vFake4)])) (want1 rfl (yD 50 hg3)) (x_loadA (a := p1) (vs := [(.int .i64 vKind10), (.int .i64 vFrom4), (.int .u64 vC10), (.string vText4), (.bool vFake4)]) (by kernel_rfl) (Try.isAgg132 _) (Try.sizeOf132 _) rfl hv21) ?_
              obtain ⟨vKind11, vFrom5, vC11, vText5, vFake5, hv20, h⟩ := h
              refine stp (v := (.agg #[(.int .i64 vKind11), (.int .i64 vFrom5), (.int .u64 vC11), (.string vText5), (.bool vFake5)])) (want1 rfl (yD 50 hg3)) (x_loadA (a := p2) (vs := [(.int .i64 vKind11), (.int .i64 vFrom5), (.int .u64 vC11), (.string vText5), (.bool vFake5)]) (by kernel_rfl) (Try.isAgg132 _) (Try.sizeOf132 _) rfl hv20) ?_
              obtain ⟨b1, hv19, h⟩ := h
              refine stp (v := (.bool b1)) (want1 rfl (yD 50 hg3)) (x_aggeq (by kernel_rfl) (by kernel_rfl) (by kernel_rfl) hv19) ?_
              refine q2 (.bool b1) (x_pickT (b := x4) (by kernel_rfl) hg3 (by kernel_rfl)) ?_
              refine q0 (.bool b1) ?_
              refine wpL_nil ?_
              refine th_n ?_
              exact ⟨b1, Has.mk (by kernel_rfl), h⟩
            · replace h := h.2 hg3
              refine st_not (unwant rfl (yD 50 hg3) rfl) ?_
              refine st_not (unwant rfl (yD 50 hg3) rfl) ?_
              refine st_not (unwant rfl (yD 50 hg3) rfl) ?_
              refine q2 (.bool false) (x_pickF (b := x4) (by kernel_rfl) hg3 (by kernel_rfl)) ?_
              refine q0 (.bool false) ?_
              refine wpL_nil ?_
              refine th_n ?_
              exact ⟨false, Has.mk (by kernel_rfl), h⟩
          · skip
            rcases Bool.eq_false_or_eq_true r3 with hg4 | hg4
            · replace h := h.1 hg4
              obtain ⟨vKind12, vFrom6, vC12, vText6, vFake6, hv22, h⟩ := h
              refine stp (v := (.agg #[(.int .i64 vKind12), (.int .i64 vFrom6), (.int .u64 vC12), (.string vText6), (.bool vFake6)])) (want1 rfl (yD 46 hg4)) (x_loadA (a := p2) (vs := [(.int .i64 vKind12), (.int .i64 vFrom6), (.int .u64 vC12), (.string vText6), (.bool vFake6)]) (by kernel_rfl) (Try.isAgg132 _) (Try.sizeOf132 _) rfl hv22) ?_
              refine st_call (want1 rfl (yD 46 hg4)) (x_callE (args := #[(.agg #[(.int .i64 vKind12), (.int .i64 vFrom6), (.int .u64 vC12), (.string vText6), (.bool vFake6)])]) Try.call132 (by kernel_rfl)) (h.mono ?_)
              clear h
              rintro e w24 ⟨r4, rfl, h⟩
              refine ⟨_, rfl, ?_⟩
              refine q2 (.bool r4) (x_pickT (b := r3) (by kernel_rfl) hg4 (by kernel_rfl)) ?_
              refine wpL_nil ?_
              exact ⟨r4, Has.mk (by kernel_rfl), h⟩
            · replace h := h.2 hg4
              refine st_not (unwant rfl (yD 46 hg4) rfl) ?_
              refine st_not (unwant rfl (yD 46 hg4) rfl) ?_
              refine q2 (.bool false) (x_pickF (b := r3) (by kernel_rfl) hg4 (by kernel_rfl)) ?_
              refine wpL_nil ?_
              exact ⟨false, Has.mk (by kernel_rfl), h⟩
    · skip
      refine rg ?_
      refine q0 (.pointer (some p1)) ?_
      obtain ⟨v7, hv29, h⟩ := h
      refine q2 (.int .i64 v7) (x_load (a := p1) (by kernel_rfl) (Try.isAgg3 _) hv29) ?_
      refine q0 (.bool ((v7 : Int) == 2)) ?_
      refine q0 (.bool ((v7 : Int) == 2)) ?_
      refine wpL_join 4 (fun ρ w => ∃ x5 : Bool, Has ρ [(2, (.pointer (some p1))), (3, (.pointer (some p2))), (4, (.pointer (some p3))), (5, (.pointer (some p4))), (6, (.func (.func 131) #[] #[])), (24, (.bool x5))] ∧ m_arbiter_fault_j5 p1 p2 p3 p4 x5 w K) ?_ ?_
      · rintro ρ w ⟨x5, hH, h⟩
        unfold m_arbiter_fault_j5 at h
        refine wpL_has hH ?_
        clear hH
        refine q0 (.bool x5) ?_
        refine wpL_join 6 (fun ρ w => ∃ x6 : Bool, Has ρ [(2, (.pointer (some p1))), (3, (.pointer (some p2))), (4, (.pointer (some p3))), (5, (.pointer (some p4))), (6, (.func (.func 131) #[] #[])), (31, (.bool x6))] ∧ m_arbiter_fault_j6 p1 p2 p3 p4 x6 w K) ?_ ?_
        · rintro ρ w ⟨x6, hH, h⟩
          unfold m_arbiter_fault_j6 at h
          refine wpL_has hH ?_
          clear hH
          refine q0 (.bool x6) ?_
          rcases Bool.eq_false_or_eq_true x6 with hg5 | hg5
          · replace h := h.1 hg5
            refine q1 (.pointer (some (p1.add 3))) (want1 rfl (yD 32 hg5)) ?_
            obtain ⟨v8, hv25, h⟩ := h
            refine stp (v := (.string v8)) (want1 rfl (yD 32 hg5)) (x_load (a := (p1.add 3)) (by kernel_rfl) (Try.isAgg9 _) hv25) ?_
            refine q1 (.pointer (some (p2.add 3))) (want1 rfl (yD 32 hg5)) ?_
            obtain ⟨v9, hv24, h⟩ := h
            refine stp (v := (.string v9)) (want1 rfl (yD 32 hg5)) (x_load (a := (p2.add 3)) (by kernel_rfl) (Try.isAgg9 _) hv24) ?_
            refine stp (v := (.bool (!(decide (v8 = v9))))) (want1 rfl (yD 32 hg5)) (x_strneq (by kernel_rfl) (by kernel_rfl)) ?_
            refine q2 (.bool (!(decide (v8 = v9)))) (x_pickT (b := x6) (by kernel_rfl) hg5 (by kernel_rfl)) ?_
            refine q0 (.bool (!(decide (v8 = v9)))) ?_
            refine wpL_nil ?_
            refine th_n ?_
            exact ⟨(!(decide (v8 = v9))), Has.mk (by kernel_rfl), h⟩
          · replace h := h.2 hg5
            refine st_not (unwant rfl (yD 32 hg5) rfl) ?_
            refine st_not (unwant rfl (yD 32 hg5) rfl) ?_
            refine st_not (unwant rfl (yD 32 hg5) rfl) ?_
            refine st_not (unwant rfl (yD 32 hg5) rfl) ?_
            refine st_not (unwant rfl (yD 32 hg5) rfl) ?_
            refine q2 (.bool false) (x_pickF (b := x6) (by kernel_rfl) hg5 (by kernel_rfl)) ?_
            refine q0 (.bool false) ?_
            refine wpL_nil ?_
            refine th_n ?_
            exact ⟨false, Has.mk (by kernel_rfl), h⟩
        · skip
          rcases Bool.eq_false_or_eq_true x5 with hg6 | hg6
          · replace h := h.1 hg6
            refine q1 (.pointer (some (p1.add 1))) (want1 rfl (yD 25 hg6)) ?_
            obtain ⟨v10, hv27, h⟩ := h
            refine stp (v := (.int .i64 v10)) (want1 rfl (yD 25 hg6)) (x_load (a := (p1.add 1)) (by kernel_rfl) (Try.isAgg3 _) hv27) ?_
            refine q1 (.pointer (some (p2.add 1))) (want1 rfl (yD 25 hg6)) ?_
            obtain ⟨v11, hv26, h⟩ := h
            refine stp (v := (.int .i64 v11)) (want1 rfl (yD 25 hg6)) (x_load (a := (p2.add 1)) (by kernel_rfl) (Try.isAgg3 _) hv26) ?_
            refine q1 (.bool ((v10 : Int) == v11)) (want1 rfl (yD 25 hg6)) ?_
            refine q2 (.bool ((v10 : Int) == v11)) (x_pickT (b := x5) (by kernel_rfl) hg6 (by kernel_rfl)) ?_
            refine wpL_nil ?_
            exact ⟨((v10 : Int) == v11), Has.mk (by kernel_rfl), h⟩
          · replace h := h.2 hg6
            refine st_not (unwant rfl (yD 25 hg6) rfl) ?_
            refine st_not (unwant rfl (yD 25 hg6) rfl) ?_
            refine st_not (unwant rfl (yD 25 hg6) rfl) ?_
            refine st_not (unwant rfl (yD 25 hg6) rfl) ?_
            refine st_not (unwant rfl (yD 25 hg6) rfl) ?_
            refine q2 (.bool false) (x_pickF (b := x5) (by kernel_rfl) hg6 (by kernel_rfl)) ?_
            refine wpL_nil ?_
            exact ⟨false, Has.mk (by kernel_rfl), h⟩
      · skip
        rcases Bool.eq_false_or_eq_true ((v7 : Int) == 2) with hg7 | hg7
        · replace h := h.1 hg7
          refine q1 (.pointer (some p2)) (want1 rfl (yD 20 hg7)) ?_
          obtain ⟨v12, hv28, h⟩ := h
          refine stp (v := (.int .i64 v12)) (want1 rfl (yD 20 hg7)) (x_load (a := p2) (by kernel_rfl) (Try.isAgg3 _) hv28) ?_
          refine q1 (.bool ((v12 : Int) == 2)) (want1 rfl (yD 20 hg7)) ?_
          refine q2 (.bool ((v12 : Int) == 2)) (x_pickT (b := ((v7 : Int) == 2)) (by kernel_rfl) hg7 (by kernel_rfl)) ?_
          refine wpL_nil ?_
          exact ⟨((v12 : Int) == 2), Has.mk (by kernel_rfl), h⟩
        · replace h := h.2 hg7
          refine st_not (unwant rfl (yD 20 hg7) rfl) ?_
          refine st_not (unwant rfl (yD 20 hg7) rfl) ?_
          refine st_not (unwant rfl (yD 20 hg7) rfl) ?_
          refine q2 (.bool false) (x_pickF (b := ((v7 : Int) == 2)) (by kernel_rfl) hg7 (by kernel_rfl)) ?_
          refine wpL_nil ?_
          exact ⟨false, Has.mk (by kernel_rfl), h⟩

def m_arbiter_fault_1 (lKind1 : Int) (lFrom1 : Int) (lC1 : Int) (lText1 : ByteArray) (lFake1 : Bool) (w : World) (K : Bool → World → Prop) : Prop :=
  ∀ (p1 : Addr) (w1 : World), New w (.cells #[(.int .i64 lKind1), (.int .i64 lFrom1), (.int .u64 lC1), (.string lText1), (.bool lFake1)] 132) p1 w1 →
  ∃ v1 : Int, w1.cell? p1 = some (.int .i64 v1) ∧
  Br ((v1 : Int) == 2)
    (∃ v2 : Int, w1.cell? (p1.add 1) = some (.int .i64 v2) ∧
    K ((v2 : Int) == 0) w1)
    (K false w1)
set_option maxRecDepth 100000 in
set_option maxHeartbeats 4000000 in
theorem w_arbiter_fault_1 (lKind1 : Int) (lFrom1 : Int) (lC1 : Int) (lText1 : ByteArray) (lFake1 : Bool) (w : World) (K : Bool → World → Prop) (h : m_arbiter_fault_1 lKind1 lFrom1 lC1 lText1 lFake1 w K) :
    Calls Try.prog 131 #[(.agg #[(.int .i64 lKind1), (.int .i64 lFrom1), (.int .u64 lC1), (.string lText1), (.bool lFake1)])] w (fun e w' => ∃ r1 : Bool, e = .returned (.bool r1) ∧ K r1 w') := by
  unfold m_arbiter_fault_1 at h
  refine calls_of_wpE (args := [(.agg #[(.int .i64 lKind1), (.int .i64 lFrom1), (.int .u64 lC1), (.string lText1), (.bool lFake1)])]) Try.func131 rfl Try.ntmps131 (Nat.le_of_ble_eq_true rfl) ?_
  refine wpE_seq ?_
  refine rg ?_
  refine st_new (O := (.cells #[(.int .i64 lKind1), (.int .i64 lFrom1), (.int .u64 lC1), (.string lText1), (.bool lFake1)] 132)) (fun p => .pointer (some p)) (want0 rfl) (x_box (cs := #[(.int .i64 lKind1), (.int .i64 lFrom1), (.int .u64 lC1), (.string lText1), (.bool lFake1)]) (by kernel_rfl)) ?_
  intro p1 w1 hn1
  replace h := h p1 w1 hn1
  refine q0 (.bool false) ?_
  refine wpL_nil ?_
  refine th_n ?_
  refine wpE_seq ?_
  refine rg ?_
  refine q0 (.pointer (some p1)) ?_
  obtain ⟨v1, hv2, h⟩ := h
  refine q2 (.int .i64 v1) (x_load (a := p1) (by kernel_rfl) (Try.isAgg3 _) hv2) ?_
  refine q0 (.bool ((v1 : Int) == 2)) ?_
  refine q0 (.bool ((v1 : Int) == 2)) ?_
  rcases Bool.eq_false_or_eq_true ((v1 : Int) == 2) with hg1 | hg1
  · replace h := h.1 hg1
    refine q1 (.pointer (some (p1.add 1))) (want1 rfl (yD 6 hg1)) ?_
    obtain ⟨v2, hv1, h⟩ := h
    refine stp (v := (.int .i64 v2)) (want1 rfl (yD 6 hg1)) (x_load (a := (p1.add 1)) (by kernel_rfl) (Try.isAgg3 _) hv1) ?_
    refine q1 (.bool ((v2 : Int) == 0)) (want1 rfl (yD 6 hg1)) ?_
    refine q2 (.bool ((v2 : Int) == 0)) (x_pickT (b := ((v1 : Int) == 2)) (by kernel_rfl) hg1 (by kernel_rfl)) ?_
    refine q0 (.bool ((v2 : Int) == 0)) ?_
    refine wpL_nil ?_
    refine th_n ?_
    refine wpE_ret ?_
    refine res1 (.inl rfl) Try.results131 (v := (.bool ((v2 : Int) == 0))) (by kernel_rfl) ?_
    exact ⟨((v2 : Int) == 0), rfl, h⟩
  · replace h := h.2 hg1
    refine st_not (unwant rfl (yD 6 hg1) rfl) ?_
    refine st_not (unwant rfl (yD 6 hg1) rfl) ?_
    refine st_not (unwant rfl (yD 6 hg1) rfl) ?_
    refine q2 (.bool false) (x_pickF (b := ((v1 : Int) == 2)) (by kernel_rfl) hg1 (by kernel_rfl)) ?_
    refine q0 (.bool false) ?_
    refine wpL_nil ?_
    refine th_n ?_
    refine wpE_ret ?_
    refine res1 (.inl rfl) Try.results131 (v := (.bool false)) (by kernel_rfl) ?_
    exact ⟨false, rfl, h⟩

def m_arbiter_isVerdict (lKind1 : Int) (lFrom1 : Int) (lC1 : Int) (lText1 : ByteArray) (lFake1 : Bool) (w : World) (K : Bool → World → Prop) : Prop :=
  ∀ (p1 : Addr) (w1 : World), New w (.cells #[(.int .i64 lKind1), (.int .i64 lFrom1), (.int .u64 lC1), (.string lText1), (.bool lFake1)] 132) p1 w1 →
  ∃ v1 : Int, w1.cell? p1 = some (.int .i64 v1) ∧
  Br ((v1 : Int) == 5)
    (K true w1)
    (∃ v2 : Int, w1.cell? p1 = some (.int .i64 v2) ∧
    K ((v2 : Int) == 6) w1)
set_option maxRecDepth 100000 in
set_option maxHeartbeats 4000000 in
theorem w_arbiter_isVerdict (lKind1 : Int) (lFrom1 : Int) (lC1 : Int) (lText1 : ByteArray) (lFake1 : Bool) (w : World) (K : Bool → World → Prop) (h : m_arbiter_isVerdict lKind1 lFrom1 lC1 lText1 lFake1 w K) :
    Calls Try.prog 132 #[(.agg #[(.int .i64 lKind1), (.int .i64 lFrom1), (.int .u64 lC1), (.string lText1), (.bool lFake1)])] w (fun e w' => ∃ r1 : Bool, e = .returned (.bool r1) ∧ K r1 w') := by
  unfold m_arbiter_isVerdict at h
  refine calls_of_wpE (args := [(.agg #[(.int .i64 lKind1), (.int .i64 lFrom1), (.int .u64 lC1), (.string lText1), (.bool lFake1)])]) Try.func132 rfl Try.ntmps132 (Nat.le_of_ble_eq_true rfl) ?_
  refine wpE_seq ?_
  refine rg ?_
  refine st_new (O := (.cells #[(.int .i64 lKind1), (.int .i64 lFrom1), (.int .u64 lC1), (.string lText1), (.bool lFake1)] 132)) (fun p => .pointer (some p)) (want0 rfl) (x_box (cs := #[(.int .i64 lKind1), (.int .i64 lFrom1), (.int .u64 lC1), (.string lText1), (.bool lFake1)]) (by kernel_rfl)) ?_
  intro p1 w1 hn1
  replace h := h p1 w1 hn1
  refine q0 (.bool false) ?_
  refine wpL_nil ?_
  refine th_n ?_
  refine wpE_seq ?_
  refine rg ?_
  refine q0 (.pointer (some p1)) ?_
  obtain ⟨v1, hv2, h⟩ := h
  refine q2 (.int .i64 v1) (x_load (a := p1) (by kernel_rfl) (Try.isAgg3 _) hv2) ?_
  refine q0 (.bool ((v1 : Int) == 5)) ?_
  refine q0 (.bool ((v1 : Int) == 5)) ?_
  rcases Bool.eq_false_or_eq_true ((v1 : Int) == 5) with hg1 | hg1
  · replace h := h.1 hg1
    refine st_not (unwant rfl (yD 6 hg1) rfl) ?_
    refine st_not (unwant rfl (yD 6 hg1) rfl) ?_
    refine st_not (unwant rfl (yD 6 hg1) rfl) ?_
    refine q2 (.bool true) (x_pickT (b := ((v1 : Int) == 5)) (by kernel_rfl) hg1 (by kernel_rfl)) ?_
    refine q0 (.bool true) ?_
    refine wpL_nil ?_
    refine th_n ?_
    refine wpE_ret ?_
    refine res1 (.inl rfl) Try.results132 (v := (.bool true)) (by kernel_rfl) ?_
    exact ⟨true, rfl, h⟩
  · replace h := h.2 hg1
    refine q1 (.pointer (some p1)) (want1 rfl (yD 6 hg1)) ?_
    obtain ⟨v2, hv1, h⟩ := h
    refine stp (v := (.int .i64 v2)) (want1 rfl (yD 6 hg1)) (x_load (a := p1) (by kernel_rfl) (Try.isAgg3 _) hv1) ?_
    refine q1 (.bool ((v2 : Int) == 6)) (want1 rfl (yD 6 hg1)) ?_
    refine q2 (.bool ((v2 : Int) == 6)) (x_pickF (b := ((v1 : Int) == 5)) (by kernel_rfl) hg1 (by kernel_rfl)) ?_
    refine q0 (.bool ((v2 : Int) == 6)) ?_
    refine wpL_nil ?_
    refine th_n ?_
    refine wpE_ret ?_
    refine res1 (.inl rfl) Try.results132 (v := (.bool ((v2 : Int) == 6))) (by kernel_rfl) ?_
    exact ⟨((v2 : Int) == 6), rfl, h⟩
end Go.Proofs
