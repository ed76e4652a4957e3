import Derived.Test.YtakogcapgbilaaaProg
import Derived.KernelRfl
import Derived.Test.YtakogcapgbilaaaSeM
open Go Go.SE
namespace Go.Proofs
attribute [local irreducible] wpL wpX opE wpE Calls
def m_term_New  (w : World) (K : (Option Addr) → World → Prop) : Prop :=
  ∀ (p1 : Addr) (w1 : World), New w (.map #[] 0) p1 w1 →
  ∀ (p2 : Addr) (w2 : World), New w1 (.cells #[Sl.nil.v, (.map (some p1.block))] 183) p2 w2 →
  K (some p2) w2
set_option maxRecDepth 100000 in
set_option maxHeartbeats 4000000 in
theorem w_term_New  (w : World) (K : (Option Addr) → World → Prop) (h : m_term_New  w K) :
    Calls Try.prog 72 #[] w (fun e w' => ∃ r1 : Option Addr, e = .returned (.pointer r1) ∧ K r1 w') := by
  unfold m_term_New at h
  refine calls_of_wpE (args := []) Try.func72 rfl Try.ntmps72 (Nat.le_of_ble_eq_true rfl) ?_
  refine wpE_seq ?_
  refine rg ?_
  refine q0 (.pointer none) ?_
  refine wpL_nil ?_
  refine th_n ?_
  refine wpE_seq ?_
  refine rg ?_
  refine st_new (O := (.map #[] 0)) (fun p => .map (some p.block)) (want0 rfl) (by kernel_rfl) ?_
  intro p1 w1 hn2
  replace h := h p1 w1 hn2
  refine q0 (.agg #[Sl.nil.v, (.map (some p1.block))]) ?_
  refine st_new (O := (.cells #[Sl.nil.v, (.map (some p1.block))] 183)) (fun p => .pointer (some p)) (want0 rfl) (x_box (cs := #[Sl.nil.v, (.map (some p1.block))]) (by kernel_rfl)) ?_
  intro p2 w2 hn1
  replace h := h p2 w2 hn1
  refine q0 (.pointer (some p2)) ?_
  refine wpL_nil ?_
  refine th_n ?_
  refine wpE_ret ?_
  refine res1 (.inl rfl) Try.results72 (v := (.pointer (some p2))) (by kernel_rfl) ?_
  exact ⟨(some p2), rfl, h⟩

def m_term_Pool_Of (p1 : Option Addr) (xKind1 : Int) (xFrom1 : Int) (xTo1 : Int) (xNum1 : Int) (xText1 : ByteArray) (xKids1 : Sl) (w : World) (K : Int → Int → World → Prop) : Prop :=
  ∀ (p2 : Addr) (w1 : World), New w (.cells #[(.int .i64 xKind1), (.int .i64 xFrom1), (.int .i64 xTo1), (.int .u64 xNum1), (.string xText1), xKids1.v] 116) p2 w1 →
  Br (Option.isNone p1)
    (K 0 0 w1)
    (∀ (p3 : Addr) (w2 : World), New w1 (.cells #[(.int .i64 0)] 3) p3 w2 →
    CanW w2 p3 ∧ ∀ w3 : World, w3 = w2.setCell p3 (.int .i64 0) →
    ∃ vKind1 : Int, ∃ vFrom1 : Int, ∃ vTo1 : Int, ∃ vNum1 : Int, ∃ vText1 : ByteArray, ∃ vKids1 : Sl, Row w3 p2 [(.int .i64 vKind1), (.int .i64 vFrom1), (.int .i64 vTo1), (.int .u64 vNum1), (.string vText1), vKids1.v] ∧
    Calls Try.prog 116 #[(.agg #[(.int .i64 vKind1), (.int .i64 vFrom1), (.int .i64 vTo1), (.int .u64 vNum1), (.string vText1), vKids1.v]), (.int .i64 0), (.pointer (some p3))] w3 (fun e w4 => ∃ r1 : Int, e = .returned (.int .i64 r1) ∧ 
      Br ((r1 : Int) != 0)
        (K 0 r1 w4)
        (∃ a1 : Addr, p1 = some a1 ∧
        ∃ v1 : Sl, w4.cell? a1 = some v1.v ∧
        ∃ vKind2 : Int, ∃ vFrom2 : Int, ∃ vTo2 : Int, ∃ vNum2 : Int, ∃ vText2 : ByteArray, ∃ vKids2 : Sl, Row w4 p2 [(.int .i64 vKind2), (.int .i64 vFrom2), (.int .i64 vTo2), (.int .u64 vNum2), (.string vText2), vKids2.v] ∧
        Calls Try.prog 117 #[(.pointer p1), (.agg #[(.int .i64 vKind2), (.int .i64 vFrom2), (.int .i64 vTo2), (.int .u64 vNum2), (.string vText2), vKids2.v])] w4 (fun e w5 => ∃ r2 : Int, ∃ r3 : Int, e = .returned (.tuple #[(.int .i64 r2), (.int .i64 r3)]) ∧ 
          Br ((r3 : Int) != 0)
            (Calls Try.prog 118 #[(.pointer p1), (.int .i64 (v1.len : Int))] w5 (fun e w6 => e = .returned (.tuple #[]) ∧ 
              K 0 r3 w6))
            (K r2 0 w5)))))
set_option maxRecDepth 100000 in
set_option maxHeartbeats 4000000 in
theorem w_term_Pool_Of (p1 : Option Addr) (xKind1 : Int) (xFrom1 : Int) (xTo1 : Int) (xNum1 : Int) (xText1 : ByteArray) (xKids1 : Sl) (w : World) (K : Int → Int → World → Prop) (h : m_term_Pool_Of p1 xKind1 xFrom1 xTo1 xNum1 xText1 xKids1 w K) :
    Calls Try.prog 73 #[(.pointer p1), (.agg #[(.int .i64 xKind1), (.int .i64 xFrom1), (.int .i64 xTo1), (.int .u64 xNum1), (.string xText1), xKids1.v])] w (fun e w' => ∃ r4 : Int, ∃ r5 : Int, e = .returned (.tuple #[(.int .i64 r4), (.int .i64 r5)]) ∧ K r4 r5 w') := by
  unfold m_term_Pool_Of at h
  refine calls_of_wpE (args := [(.pointer p1), (.agg #[(.int .i64 xKind1), (.int .i64 xFrom1), (.int .i64 xTo1), (.int .u64 xNum1), (.string xText1), xKids1.v])]) Try.func73 rfl Try.ntmps73 (Nat.le_of_ble_eq_true rfl) ?_
  refine wpE_seq ?_
  refine rg ?_
  refine st_new (O := (.cells #[(.int .i64 xKind1), (.int .i64 xFrom1), (.int .i64 xTo1), (.int .u64 xNum1), (.string xText1), xKids1.v] 116)) (fun p => .pointer (some p)) (want0 rfl) (x_box (cs := #[(.int .i64 xKind1), (.int .i64 xFrom1), (.int .i64 xTo1), (.int .u64 xNum1), (.string xText1), xKids1.v]) (by kernel_rfl)) ?_
  intro p2 w1 hn3
  replace h := h p2 w1 hn3
  refine q0 (.int .i64 0) ?_
  refine q0 (.int .i64 0) ?_
  refine wpL_nil ?_
  refine th_n ?_
  refine wpE_seq ?_
  refine wpE_seq ?_
  refine rg ?_
  refine q0 (.pointer p1) ?_
  refine q2 (.bool (Option.isNone p1)) (x_ptreq (by kernel_rfl) rfl Try.underlying25) ?_
  refine wpL_nil ?_
  refine th_n ?_
  refine wpE_cond (t := (Option.isNone p1)) (by kernel_rfl) (fun hc1 => ?_) (fun hc1 => ?_)
  · replace h := h.1 hc1
    refine wpE_seq ?_
    refine rg ?_
    refine q0 (.int .i64 0) ?_
    refine q0 (.int .i64 0) ?_
    refine wpL_nil ?_
    refine th_n ?_
    refine wpE_ret ?_
    refine th_r ?_
    refine res2 (.inl rfl) Try.results73 (v := (.int .i64 0)) (by kernel_rfl) (v' := (.int .i64 0)) (by kernel_rfl) ?_
    exact ⟨0, 0, rfl, h⟩
  · replace h := h.2 hc1
    refine wpE_skip ?_
    refine th_n ?_
    refine wpE_seq ?_
    refine rg ?_
    refine st_new (O := (.cells #[(.int .i64 0)] 3)) (fun p => .pointer (some p)) (want0 rfl) (x_alloc (Try.zeroValue3 _) rfl) ?_
    intro p3 w2 hn2
    replace h := h p3 w2 hn2
    obtain ⟨hp1, h⟩ := h
    refine st_set (want0 rfl) (x_store (a := p3) (v := (.int .i64 0)) (by kernel_rfl) (by kernel_rfl) rfl (Try.sizeOf3 _) hp1) ?_
    intro w3 hn1
    replace h := h w3 hn1
    refine wpL_nil ?_
    refine th_n ?_
    refine wpE_seq ?_
    refine wpE_seq ?_
    refine rg ?_
    obtain ⟨vKind1, vFrom1, vTo1, vNum1, vText1, vKids1, hv3, h⟩ := h
    refine q2 (.agg #[(.int .i64 vKind1), (.int .i64 vFrom1), (.int .i64 vTo1), (.int .u64 vNum1), (.string vText1), vKids1.v]) (x_loadA (a := p2) (vs := [(.int .i64 vKind1), (.int .i64 vFrom1), (.int .i64 vTo1), (.int .u64 vNum1), (.string vText1), vKids1.v]) (by kernel_rfl) (Try.isAgg116 _) (Try.sizeOf116 _) rfl hv3) ?_
    refine st_call (want0 rfl) (x_callE (args := #[(.agg #[(.int .i64 vKind1), (.int .i64 vFrom1), (.int .i64 vTo1), (.int .u64 vNum1), (.string vText1), vKids1.v]), (.int .i64 0), (.pointer (some p3))]) Try.call116 (by kernel_rfl)) (h.mono ?_)
    clear h
    rintro e w4 ⟨r1, rfl, h⟩
    refine ⟨_, rfl, ?_⟩
    refine q0 (.int .i64 r1) ?_
    refine wpL_nil ?_
    refine th_n ?_
    refine wpE_seq ?_
    refine rg ?_
    refine q0 (.int .i64 r1) ?_
    refine q0 (.bool ((r1 : Int) != 0)) ?_
    refine wpL_nil ?_
    refine th_n ?_
    refine wpE_cond (t := ((r1 : Int) != 0)) (by kernel_rfl) (fun hc2 => ?_) (fun hc2 => ?_)
    · replace h := h.1 hc2
      refine wpE_seq ?_
      refine rg ?_
      refine q0 (.int .i64 r1) ?_
      refine q0 (.int .i64 0) ?_
      refine q0 (.int .i64 r1) ?_
      refine wpL_nil ?_
      refine th_n ?_
      refine wpE_ret ?_
      refine th_r ?_
      refine res2 (.inl rfl) Try.results73 (v := (.int .i64 0)) (by kernel_rfl) (v' := (.int .i64 r1)) (by kernel_rfl) ?_
      exact ⟨0, r1, rfl, h⟩
    · replace h := h.2 hc2
      refine wpE_skip ?_
      refine th_n ?_
      refine wpE_seq ?_
      refine rg ?_
      refine q0 (.pointer p1) ?_
      obtain ⟨a1, hp2, h⟩ := h
      refine q2 (.pointer (some a1)) (x_nilCheck (p := p1) (by kernel_rfl) hp2) ?_
      refine q0 (.pointer (some a1)) ?_
      obtain ⟨v1, hv2, h⟩ := h
      refine q2 v1.v (x_load (a := a1) (by kernel_rfl) (Try.isAgg180 _) hv2) ?_
      refine q0 (.int .i64 (v1.len : Int)) ?_
      refine q0 (.int .i64 (v1.len : Int)) ?_
      refine wpL_nil ?_
      refine th_n ?_
      refine wpE_seq ?_
      refine rg ?_
      refine q0 (.pointer p1) ?_
      obtain ⟨vKind2, vFrom2, vTo2, vNum2, vText2, vKids2, hv1, h⟩ := h
      refine q2 (.agg #[(.int .i64 vKind2), (.int .i64 vFrom2), (.int .i64 vTo2), (.int .u64 vNum2), (.string vText2), vKids2.v]) (x_loadA (a := p2) (vs := [(.int .i64 vKind2), (.int .i64 vFrom2), (.int .i64 vTo2), (.int .u64 vNum2), (.string vText2), vKids2.v]) (by kernel_rfl) (Try.isAgg116 _) (Try.sizeOf116 _) rfl hv1) ?_
      refine st_call (want0 rfl) (x_callE (args := #[(.pointer p1), (.agg #[(.int .i64 vKind2), (.int .i64 vFrom2), (.int .i64 vTo2), (.int .u64 vNum2), (.string vText2), vKids2.v])]) Try.call117 (by kernel_rfl)) (h.mono ?_)
      clear h
      rintro e w5 ⟨r2, r3, rfl, h⟩
      refine ⟨_, rfl, ?_⟩
      refine q0 (.tuple #[(.int .i64 r2), (.int .i64 r3)]) ?_
      refine q0 (.int .i64 r2) ?_
      refine q0 (.int .i64 r3) ?_
      refine q0 (.int .i64 r2) ?_
      refine q0 (.int .i64 r3) ?_
      refine wpL_nil ?_
      refine th_n ?_
      refine wpE_seq ?_
      refine wpE_seq ?_
      refine rg ?_
      refine q0 (.int .i64 r3) ?_
      refine q0 (.bool ((r3 : Int) != 0)) ?_
      refine wpL_nil ?_
      refine th_n ?_
      refine wpE_cond (t := ((r3 : Int) != 0)) (by kernel_rfl) (fun hc3 => ?_) (fun hc3 => ?_)
      · replace h := h.1 hc3
        refine wpE_seq ?_
        refine rg ?_
        refine q0 (.pointer p1) ?_
        refine q0 (.int .i64 (v1.len : Int)) ?_
        refine st_call (want0 rfl) (x_callE (args := #[(.pointer p1), (.int .i64 (v1.len : Int))]) Try.call118 (by kernel_rfl)) (h.mono ?_)
        clear h
        rintro e w6 ⟨rfl, h⟩
        refine ⟨_, rfl, ?_⟩
        refine wpL_nil ?_
        refine th_n ?_
        refine wpE_seq ?_
        refine rg ?_
        refine q0 (.int .i64 r3) ?_
        refine q0 (.int .i64 0) ?_
        refine q0 (.int .i64 r3) ?_
        refine wpL_nil ?_
        refine th_n ?_
        refine wpE_ret ?_
        refine th_r ?_
        refine res2 (.inl rfl) Try.results73 (v := (.int .i64 0)) (by kernel_rfl) (v' := (.int .i64 r3)) (by kernel_rfl) ?_
        exact ⟨0, r3, rfl, h⟩
      · replace h := h.2 hc3
        refine wpE_skip ?_
        refine th_n ?_
        refine wpE_seq ?_
        refine rg ?_
        refine q0 (.int .i64 r2) ?_
        refine q0 (.int .i64 r2) ?_
        refine q0 (.int .i64 0) ?_
        refine wpL_nil ?_
        refine th_n ?_
        refine wpE_ret ?_
        refine res2 (.inl rfl) Try.results73 (v := (.int .i64 r2)) (by kernel_rfl) (v' := (.int .i64 0)) (by kernel_rfl) ?_
        exact ⟨r2, 0, rfl, h⟩

def m_term_Pool_Node (p1 : Option Addr) (t1 : Int) (w : World) (K : Int → Int → Int → Int → ByteArray → Int → Int → Bool → World → Prop) : Prop :=
  ∀ (p2 : Addr) (w1 : World), New w (.cells #[(.int .i64 0), (.int .i64 0), (.int .i64 0), (.int .u64 0), (.string (⟨#[]⟩ : ByteArray)), (.int .i64 0), (.int .i64 0)] 93) p2 w1 →
  Calls Try.prog 136 #[(.pointer p1), (.int .i64 t1)] w1 (fun e w2 => ∃ r1 : Bool, e = .returned (.bool r1) ∧ 
    Br (!r1)
      ((∀ j, j < 7 → CanW w2 (p2.add j)) ∧ ∀ w3 : World, w3 = storeRow w2 p2 [(.int .i64 0), (.int .i64 0), (.int .i64 0), (.int .u64 0), (.string (⟨#[]⟩ : ByteArray)), (.int .i64 0), (.int .i64 0)] →
      ∃ qKind1 : Int, ∃ qFrom1 : Int, ∃ qTo1 : Int, ∃ qNum1 : Int, ∃ qText1 : ByteArray, ∃ qA1 : Int, ∃ qB1 : Int, Row w3 p2 [(.int .i64 qKind1), (.int .i64 qFrom1), (.int .i64 qTo1), (.int .u64 qNum1), (.string qText1), (.int .i64 qA1), (.int .i64 qB1)] ∧
      K qKind1 qFrom1 qTo1 qNum1 qText1 qA1 qB1 false w3)
      (∃ a1 : Addr, p1 = some a1 ∧
      ∃ v1 : Sl, w2.cell? a1 = some v1.v ∧
      ∃ a2 : Addr, At v1 (IntKind.i64.wrap (t1 - 1)) 9 a2 ∧
      ∃ vKind1 : Int, ∃ vFrom1 : Int, ∃ vTo1 : Int, ∃ vNum1 : Int, ∃ vText1 : ByteArray, ∃ vA1 : Int, ∃ vB1 : Int, Row w2 a2 [(.int .i64 vKind1), (.int .i64 vFrom1), (.int .i64 vTo1), (.int .u64 vNum1), (.string vText1), (.int .i64 vA1), (.int .i64 vB1)] ∧
      (∀ j, j < 7 → CanW w2 (p2.add j)) ∧ ∀ w4 : World, w4 = storeRow w2 p2 [(.int .i64 vKind1), (.int .i64 vFrom1), (.int .i64 vTo1), (.int .u64 vNum1), (.string vText1), (.int .i64 vA1), (.int .i64 vB1)] →
      ∃ qKind2 : Int, ∃ qFrom2 : Int, ∃ qTo2 : Int, ∃ qNum2 : Int, ∃ qText2 : ByteArray, ∃ qA2 : Int, ∃ qB2 : Int, Row w4 p2 [(.int .i64 qKind2), (.int .i64 qFrom2), (.int .i64 qTo2), (.int .u64 qNum2), (.string qText2), (.int .i64 qA2), (.int .i64 qB2)] ∧
      K qKind2 qFrom2 qTo2 qNum2 qText2 qA2 qB2 true w4))
set_option maxRecDepth 100000 in
set_option maxHeartbeats 4000000 in
theorem w_term_Pool_Node (p1 : Option Addr) (t1 : Int) (w : World) (K : Int → Int → Int → Int → ByteArray → Int → Int → Bool → World → Prop) (h : m_term_Pool_Node p1 t1 w K) :
    Calls Try.prog 91 #[(.pointer p1), (.int .i64 t1)] w (fun e w' => ∃ rKind1 : Int, ∃ rFrom1 : Int, ∃ rTo1 : Int, ∃ rNum1 : Int, ∃ rText1 : ByteArray, ∃ rA1 : Int, ∃ rB1 : Int, ∃ r2 : Bool, e = .returned (.tuple #[(.agg #[(.int .i64 rKind1), (.int .i64 rFrom1), (.int .i64 rTo1), (.int .u64 rNum1), (.string rText1), (.int .i64 rA1), (.int .i64 rB1)]), (.bool r2)]) ∧ K rKind1 rFrom1 rTo1 rNum1 rText1 rA1 rB1 r2 w') := by
  unfold m_term_Pool_Node at h
  refine calls_of_wpE (args := [(.pointer p1), (.int .i64 t1)]) Try.func91 rfl Try.ntmps91 (Nat.le_of_ble_eq_true rfl) ?_
  refine wpE_seq ?_
  refine rg ?_
  refine st_new (O := (.cells #[(.int .i64 0), (.int .i64 0), (.int .i64 0), (.int .u64 0), (.string (⟨#[]⟩ : ByteArray)), (.int .i64 0), (.int .i64 0)] 93)) (fun p => .pointer (some p)) (want0 rfl) (x_alloc (Try.zeroValue93 _) rfl) ?_
  intro p2 w1 hn3
  replace h := h p2 w1 hn3
  refine q0 (.bool false) ?_
  refine wpL_nil ?_
  refine th_n ?_
  refine wpE_seq ?_
  refine wpE_seq ?_
  refine rg ?_
  refine q0 (.pointer p1) ?_
  refine q0 (.int .i64 t1) ?_
  refine st_call (want0 rfl) (x_callE (args := #[(.pointer p1), (.int .i64 t1)]) Try.call136 (by kernel_rfl)) (h.mono ?_)
  clear h
  rintro e w2 ⟨r1, rfl, h⟩
  refine ⟨_, rfl, ?_⟩
  refine q0 (.bool (!r1)) ?_
  refine wpL_nil ?_
  refine th_n ?_
  refine wpE_cond (t := (!r1)) (by kernel_rfl) (fun hc1 => ?_) (fun hc1 => ?_)
  · replace h := h.1 hc1
    refine wpE_seq ?_
    refine rg ?_
    refine q0 (.agg #[(.int .i64 0), (.int .i64 0), (.int .i64 0), (.int .u64 0), (.string (⟨#[]⟩ : ByteArray)), (.int .i64 0), (.int .i64 0)]) ?_
    obtain ⟨hp1, h⟩ := h
    refine st_set (want0 rfl) (x_storeA (a := p2) (vs := [(.int .i64 0), (.int .i64 0), (.int .i64 0), (.int .u64 0), (.string (⟨#[]⟩ : ByteArray)), (.int .i64 0), (.int .i64 0)]) (by kernel_rfl) (by kernel_rfl) rfl (Try.sizeOf93 _) rfl hp1) ?_
    intro w3 hn1
    replace h := h w3 hn1
    refine q0 (.bool false) ?_
    refine wpL_nil ?_
    refine th_n ?_
    refine wpE_ret ?_
    refine th_r ?_
    obtain ⟨qKind1, qFrom1, qTo1, qNum1, qText1, qA1, qB1, hv1, h⟩ := h
    refine resG (.inl rfl) (rs := [.cell 4 93, .tmp 5]) (vs := [(.agg #[(.int .i64 qKind1), (.int .i64 qFrom1), (.int .i64 qTo1), (.int .u64 qNum1), (.string qText1), (.int .i64 qA1), (.int .i64 qB1)]), (.bool false)]) (v := (.tuple #[(.agg #[(.int .i64 qKind1), (.int .i64 qFrom1), (.int .i64 qTo1), (.int .u64 qNum1), (.string qText1), (.int .i64 qA1), (.int .i64 qB1)]), (.bool false)])) Try.results91 ⟨(RV.cellA (A := p2) (vs := [(.int .i64 qKind1), (.int .i64 qFrom1), (.int .i64 qTo1), (.int .u64 qNum1), (.string qText1), (.int .i64 qA1), (.int .i64 qB1)]) (by kernel_rfl) (Try.isAgg93 _) (Try.sizeOf93 _) rfl hv1), (rvT (by kernel_rfl)), trivial⟩ (by kernel_rfl) ?_
    exact ⟨qKind1, qFrom1, qTo1, qNum1, qText1, qA1, qB1, false, rfl, h⟩
  · replace h := h.2 hc1
    refine wpE_skip ?_
    refine th_n ?_
    refine wpE_seq ?_
    refine rg ?_
    refine q0 (.pointer p1) ?_
    obtain ⟨a1, hp2, h⟩ := h
    refine q2 (.pointer (some a1)) (x_nilCheck (p := p1) (by kernel_rfl) hp2) ?_
    refine q0 (.pointer (some a1)) ?_
    obtain ⟨v1, hv5, h⟩ := h
    refine q2 v1.v (x_load (a := a1) (by kernel_rfl) (Try.isAgg180 _) hv5) ?_
    refine q0 (.int .i64 t1) ?_
    refine q0 (.int .i64 (IntKind.i64.wrap (t1 - 1))) ?_
    obtain ⟨a2, hv4, h⟩ := h
    refine q2 (.pointer (some a2)) (x_indexAddr (s := v1) (k := .i64) (i := (IntKind.i64.wrap (t1 - 1))) (by kernel_rfl) (by kernel_rfl) (Try.runUnderlying180 _) (Try.sizeOf213 _) hv4) ?_
    refine q0 (.pointer (some a2)) ?_
    obtain ⟨vKind1, vFrom1, vTo1, vNum1, vText1, vA1, vB1, hv3, h⟩ := h
    refine q2 (.agg #[(.int .i64 vKind1), (.int .i64 vFrom1), (.int .i64 vTo1), (.int .u64 vNum1), (.string vText1), (.int .i64 vA1), (.int .i64 vB1)]) (x_loadA (a := a2) (vs := [(.int .i64 vKind1), (.int .i64 vFrom1), (.int .i64 vTo1), (.int .u64 vNum1), (.string vText1), (.int .i64 vA1), (.int .i64 vB1)]) (by kernel_rfl) (Try.isAgg93 _) (Try.sizeOf93 _) rfl hv3) ?_
    obtain ⟨hp3, h⟩ := h
    refine st_set (want0 rfl) (x_storeA (a := p2) (vs := [(.int .i64 vKind1), (.int .i64 vFrom1), (.int .i64 vTo1), (.int .u64 vNum1), (.string vText1), (.int .i64 vA1), (.int .i64 vB1)]) (by kernel_rfl) (by kernel_rfl) rfl (Try.sizeOf93 _) rfl hp3) ?_
    intro w4 hn2
    replace h := h w4 hn2
    refine q0 (.bool true) ?_
    refine wpL_nil ?_
    refine th_n ?_
    refine wpE_ret ?_
    obtain ⟨qKind2, qFrom2, qTo2, qNum2, qText2, qA2, qB2, hv2, h⟩ := h
    refine resG (.inl rfl) (rs := [.cell 4 93, .tmp 5]) (vs := [(.agg #[(.int .i64 qKind2), (.int .i64 qFrom2), (.int .i64 qTo2), (.int .u64 qNum2), (.string qText2), (.int .i64 qA2), (.int .i64 qB2)]), (.bool true)]) (v := (.tuple #[(.agg #[(.int .i64 qKind2), (.int .i64 qFrom2), (.int .i64 qTo2), (.int .u64 qNum2), (.string qText2), (.int .i64 qA2), (.int .i64 qB2)]), (.bool true)])) Try.results91 ⟨(RV.cellA (A := p2) (vs := [(.int .i64 qKind2), (.int .i64 qFrom2), (.int .i64 qTo2), (.int .u64 qNum2), (.string qText2), (.int .i64 qA2), (.int .i64 qB2)]) (by kernel_rfl) (Try.isAgg93 _) (Try.sizeOf93 _) rfl hv2), (rvT (by kernel_rfl)), trivial⟩ (by kernel_rfl) ?_
    exact ⟨qKind2, qFrom2, qTo2, qNum2, qText2, qA2, qB2, true, rfl, h⟩

def m_term_looks_l4 (inside1 : Int) (seen1 : Option Addr) (p1 : Addr) (e3 : Int) (i1 : Int) (wl1 : World) (Kc4 : Int → Int → World → Prop) (K : Int → World → Prop) : Prop :=
  ∃ v2 : Sl, wl1.cell? (p1.add 5) = some v2.v ∧
  Br (decide (i1 < (v2.len : Int)))
    (Br ((e3 : Int) == 0)
      (∃ v3 : Sl, wl1.cell? (p1.add 5) = some v3.v ∧
      ∃ a3 : Addr, At v3 i1 6 a3 ∧
      ∃ vKind3 : Int, ∃ vFrom3 : Int, ∃ vTo3 : Int, ∃ vNum3 : Int, ∃ vText3 : ByteArray, ∃ vKids2 : Sl, Row wl1 a3 [(.int .i64 vKind3), (.int .i64 vFrom3), (.int .i64 vTo3), (.int .u64 vNum3), (.string vText3), vKids2.v] ∧
      Calls Try.prog 116 #[(.agg #[(.int .i64 vKind3), (.int .i64 vFrom3), (.int .i64 vTo3), (.int .u64 vNum3), (.string vText3), vKids2.v]), (.int .i64 (IntKind.i64.wrap (inside1 + 1))), (.pointer seen1)] wl1 (fun e w9 => ∃ r2 : Int, e = .returned (.int .i64 r2) ∧ 
        Kc4 r2 (IntKind.i64.wrap (i1 + 1)) w9))
      (K e3 wl1))
    (K e3 wl1)
def m_term_looks_j3 (inside1 : Int) (seen1 : Option Addr) (p1 : Addr) (e2 : Int) (w : World) (K : Int → World → Prop) : Prop :=
  ∃ (I1 : Int → Int → World → Prop) (mu1 : Int → Int → World → Nat), I1 e2 0 w ∧
    ∀ (e3 : Int) (i1 : Int) (wl1 : World), I1 e3 i1 wl1 → m_term_looks_l4 inside1 seen1 p1 e3 i1 wl1 (fun y'0 y'1 w' => I1 y'0 y'1 w' ∧ mu1 y'0 y'1 w' < mu1 e3 i1 wl1) K
def m_term_looks_j2 (inside1 : Int) (seen1 : Option Addr) (p1 : Addr) (p2 : Addr) (p3 : Addr) (e1 : Int) (w : World) (K : Int → World → Prop) : Prop :=
  Br ((e1 : Int) == 0)
    (∃ vfrom1 : Bool, ∃ vto1 : Bool, ∃ vnum1 : Bool, ∃ vtext1 : Bool, ∃ vkids1 : Int, Row w p3 [(.bool vfrom1), (.bool vto1), (.bool vnum1), (.bool vtext1), (.int .i64 vkids1)] ∧
    ∃ vKind4 : Int, ∃ vFrom4 : Int, ∃ vTo4 : Int, ∃ vNum4 : Int, ∃ vText4 : ByteArray, ∃ vA2 : Int, ∃ vB2 : Int, Row w p2 [(.int .i64 vKind4), (.int .i64 vFrom4), (.int .i64 vTo4), (.int .u64 vNum4), (.string vText4), (.int .i64 vA2), (.int .i64 vB2)] ∧
    Calls Try.prog 158 #[(.agg #[(.bool vfrom1), (.bool vto1), (.bool vnum1), (.bool vtext1), (.int .i64 vkids1)]), (.agg #[(.int .i64 vKind4), (.int .i64 vFrom4), (.int .i64 vTo4), (.int .u64 vNum4), (.string vText4), (.int .i64 vA2), (.int .i64 vB2)])] w (fun e w10 => ∃ r3 : Int, e = .returned (.int .i64 r3) ∧ 
      m_term_looks_j3 inside1 seen1 p1 r3 w10 K))
    (m_term_looks_j3 inside1 seen1 p1 e1 w K)
def m_term_looks_j1 (inside1 : Int) (seen1 : Option Addr) (p1 : Addr) (w : World) (K : Int → World → Prop) : Prop :=
  ∃ a1 : Addr, seen1 = some a1 ∧
  ∃ v1 : Int, w.cell? a1 = some (.int .i64 v1) ∧
  ∃ a2 : Addr, seen1 = some a2 ∧
  CanW w a2 ∧ ∀ w2 : World, w2 = w.setCell a2 (.int .i64 (IntKind.i64.wrap (v1 + 1))) →
  ∃ vKind1 : Int, ∃ vFrom1 : Int, ∃ vTo1 : Int, ∃ vNum1 : Int, ∃ vText1 : ByteArray, ∃ vKids1 : Sl, Row w2 p1 [(.int .i64 vKind1), (.int .i64 vFrom1), (.int .i64 vTo1), (.int .u64 vNum1), (.string vText1), vKids1.v] ∧
  Calls Try.prog 156 #[(.agg #[(.int .i64 vKind1), (.int .i64 vFrom1), (.int .i64 vTo1), (.int .u64 vNum1), (.string vText1), vKids1.v])] w2 (fun e w3 => ∃ rKind1 : Int, ∃ rFrom1 : Int, ∃ rTo1 : Int, ∃ rNum1 : Int, ∃ rText1 : ByteArray, ∃ rA1 : Int, ∃ rB1 : Int, e = .returned (.agg #[(.int .i64 rKind1), (.int .i64 rFrom1), (.int .i64 rTo1), (.int .u64 rNum1), (.string rText1), (.int .i64 rA1), (.int .i64 rB1)]) ∧ 
    ∀ (p2 : Addr) (w4 : World), New w3 (.cells #[(.int .i64 0), (.int .i64 0), (.int .i64 0), (.int .u64 0), (.string (⟨#[]⟩ : ByteArray)), (.int .i64 0), (.int .i64 0)] 93) p2 w4 →
    (∀ j, j < 7 → CanW w4 (p2.add j)) ∧ ∀ w5 : World, w5 = storeRow w4 p2 [(.int .i64 rKind1), (.int .i64 rFrom1), (.int .i64 rTo1), (.int .u64 rNum1), (.string rText1), (.int .i64 rA1), (.int .i64 rB1)] →
    ∃ vKind2 : Int, ∃ vFrom2 : Int, ∃ vTo2 : Int, ∃ vNum2 : Int, ∃ vText2 : ByteArray, ∃ vA1 : Int, ∃ vB1 : Int, Row w5 p2 [(.int .i64 vKind2), (.int .i64 vFrom2), (.int .i64 vTo2), (.int .u64 vNum2), (.string vText2), (.int .i64 vA1), (.int .i64 vB1)] ∧
    Calls Try.prog 157 #[(.agg #[(.int .i64 vKind2), (.int .i64 vFrom2), (.int .i64 vTo2), (.int .u64 vNum2), (.string vText2), (.int .i64 vA1), (.int .i64 vB1)])] w5 (fun e w6 => ∃ rfrom1 : Bool, ∃ rto1 : Bool, ∃ rnum1 : Bool, ∃ rtext1 : Bool, ∃ rkids1 : Int, ∃ r1 : Int, e = .returned (.tuple #[(.agg #[(.bool rfrom1), (.bool rto1), (.bool rnum1), (.bool rtext1), (.int .i64 rkids1)]), (.int .i64 r1)]) ∧ 
      ∀ (p3 : Addr) (w7 : World), New w6 (.cells #[(.bool false), (.bool false), (.bool false), (.bool false), (.int .i64 0)] 234) p3 w7 →
      (∀ j, j < 5 → CanW w7 (p3.add j)) ∧ ∀ w8 : World, w8 = storeRow w7 p3 [(.bool rfrom1), (.bool rto1), (.bool rnum1), (.bool rtext1), (.int .i64 rkids1)] →
      Br ((r1 : Int) == 0)
        (∃ v4 : Sl, w8.cell? (p1.add 5) = some v4.v ∧
        ∃ v5 : Int, w8.cell? (p3.add 4) = some (.int .i64 v5) ∧
        Br (((v4.len : Int) : Int) != v5)
          (m_term_looks_j2 inside1 seen1 p1 p2 p3 53 w8 K)
          (m_term_looks_j2 inside1 seen1 p1 p2 p3 r1 w8 K))
        (m_term_looks_j2 inside1 seen1 p1 p2 p3 r1 w8 K)))
def m_term_looks (xKind1 : Int) (xFrom1 : Int) (xTo1 : Int) (xNum1 : Int) (xText1 : ByteArray) (xKids1 : Sl) (inside1 : Int) (seen1 : Option Addr) (w : World) (K : Int → World → Prop) : Prop :=
  ∀ (p1 : Addr) (w1 : World), New w (.cells #[(.int .i64 xKind1), (.int .i64 xFrom1), (.int .i64 xTo1), (.int .u64 xNum1), (.string xText1), xKids1.v] 116) p1 w1 →
  ∃ a4 : Addr, seen1 = some a4 ∧
  ∃ v6 : Int, w1.cell? a4 = some (.int .i64 v6) ∧
  Br (decide (v6 ≥ 4096))
    (K 52 w1)
    (Br (decide (inside1 ≥ 64))
      (K 52 w1)
      (m_term_looks_j1 inside1 seen1 p1 w1 K))
set_option maxRecDepth 100000 in
set_option maxHeartbeats 4000000 in
theorem w_term_looks (xKind1 : Int) (xFrom1 : Int) (xTo1 : Int) (xNum1 : Int) (xText1 : ByteArray) (xKids1 : Sl) (inside1 : Int) (seen1 : Option Addr) (w : World) (K : Int → World → Prop) (h : m_term_looks xKind1 xFrom1 xTo1 xNum1 xText1 xKids1 inside1 seen1 w K) :
    Calls Try.prog 116 #[(.agg #[(.int .i64 xKind1), (.int .i64 xFrom1), (.int .i64 xTo1), (.int .u64 xNum1), (.string xText1), xKids1.v]), (.int .i64 inside1), (.pointer seen1)] w (fun e w' => ∃ r4 : Int, e = .returned (.int .i64 r4) ∧ K r4 w') := by
  unfold m_term_looks at h
  refine calls_of_wpE (args := [(.agg #[(.int .i64 xKind1), (.int .i64 xFrom1), (.int .i64 xTo1), (.int .u64 xNum1), (.string xText1), xKids1.v]), (.int .i64 inside1), (.pointer seen1)]) Try.func116 rfl Try.ntmps116 (Nat.le_of_ble_eq_true rfl) ?_
  refine wpE_seq ?_
  refine rg ?_
  refine st_new (O := (.cells #[(.int .i64 xKind1), (.int .i64 xFrom1), (.int .i64 xTo1), (.int .u64 xNum1), (.string xText1), xKids1.v] 116)) (fun p => .pointer (some p)) (want0 rfl) (x_box (cs := #[(.int .i64 xKind1), (.int .i64 xFrom1), (.int .i64 xTo1), (.int .u64 xNum1), (.string xText1), xKids1.v]) (by kernel_rfl)) ?_
  intro p1 w1 hn6
  replace h := h p1 w1 hn6
  refine q0 (.int .i64 0) ?_
  refine wpL_nil ?_
  refine th_n ?_
  refine wpE_join (fun ρ w => Has ρ [(1, (.int .i64 inside1)), (2, (.pointer seen1)), (3, (.pointer (some p1)))] ∧ m_term_looks_j1 inside1 seen1 p1 w K) ?_ ?_
  · rintro ρ w ⟨hH, h⟩
    unfold m_term_looks_j1 at h
    refine wpE_has hH ?_
    clear hH
    refine wpE_seq ?_
    refine rg ?_
    refine q0 (.pointer seen1) ?_
    obtain ⟨a1, hp1, h⟩ := h
    refine q2 (.pointer (some a1)) (x_nilCheck (p := seen1) (by kernel_rfl) hp1) ?_
    obtain ⟨v1, hv11, h⟩ := h
    refine q2 (.int .i64 v1) (x_load (a := a1) (by kernel_rfl) (Try.isAgg3 _) hv11) ?_
    refine q0 (.int .i64 (IntKind.i64.wrap (v1 + 1))) ?_
    obtain ⟨a2, hp2, h⟩ := h
    refine q2 (.pointer (some a2)) (x_nilCheck (p := seen1) (by kernel_rfl) hp2) ?_
    obtain ⟨hp3, h⟩ := h
    refine st_set (want0 rfl) (x_store (a := a2) (v := (.int .i64 (IntKind.i64.wrap (v1 + 1)))) (by kernel_rfl) (by kernel_rfl) rfl (Try.sizeOf3 _) hp3) ?_
    intro w2 hn1
    replace h := h w2 hn1
    refine wpL_nil ?_
    refine th_n ?_
    refine wpE_seq ?_
    refine rg ?_
    obtain ⟨vKind1, vFrom1, vTo1, vNum1, vText1, vKids1, hv10, h⟩ := h
    refine q2 (.agg #[(.int .i64 vKind1), (.int .i64 vFrom1), (.int .i64 vTo1), (.int .u64 vNum1), (.string vText1), vKids1.v]) (x_loadA (a := p1) (vs := [(.int .i64 vKind1), (.int .i64 vFrom1), (.int .i64 vTo1), (.int .u64 vNum1), (.string vText1), vKids1.v]) (by kernel_rfl) (Try.isAgg116 _) (Try.sizeOf116 _) rfl hv10) ?_
    refine st_call (want0 rfl) (x_callE (args := #[(.agg #[(.int .i64 vKind1), (.int .i64 vFrom1), (.int .i64 vTo1), (.int .u64 vNum1), (.string vText1), vKids1.v])]) Try.call156 (by kernel_rfl)) (h.mono ?_)
    clear h
    rintro e w3 ⟨rKind1, rFrom1, rTo1, rNum1, rText1, rA1, rB1, rfl, h⟩
    refine ⟨_, rfl, ?_⟩
    refine st_new (O := (.cells #[(.int .i64 0), (.int .i64 0), (.int .i64 0), (.int .u64 0), (.string (⟨#[]⟩ : ByteArray)), (.int .i64 0), (.int .i64 0)] 93)) (fun p => .pointer (some p)) (want0 rfl) (x_alloc (Try.zeroValue93 _) rfl) ?_
    intro p2 w4 hn5
    replace h := h p2 w4 hn5
    obtain ⟨hp4, h⟩ := h
    refine st_set (want0 rfl) (x_storeA (a := p2) (vs := [(.int .i64 rKind1), (.int .i64 rFrom1), (.int .i64 rTo1), (.int .u64 rNum1), (.string rText1), (.int .i64 rA1), (.int .i64 rB1)]) (by kernel_rfl) (by kernel_rfl) rfl (Try.sizeOf93 _) rfl hp4) ?_
    intro w5 hn2
    replace h := h w5 hn2
    refine wpL_nil ?_
    refine th_n ?_
    refine wpE_seq ?_
    refine rg ?_
    obtain ⟨vKind2, vFrom2, vTo2, vNum2, vText2, vA1, vB1, hv9, h⟩ := h
    refine q2 (.agg #[(.int .i64 vKind2), (.int .i64 vFrom2), (.int .i64 vTo2), (.int .u64 vNum2), (.string vText2), (.int .i64 vA1), (.int .i64 vB1)]) (x_loadA (a := p2) (vs := [(.int .i64 vKind2), (.int .i64 vFrom2), (.int .i64 vTo2), (.int .u64 vNum2), (.string vText2), (.int .i64 vA1), (.int .i64 vB1)]) (by kernel_rfl) (Try.isAgg93 _) (Try.sizeOf93 _) rfl hv9) ?_
    refine st_call (want0 rfl) (x_callE (args := #[(.agg #[(.int .i64 vKind2), (.int .i64 vFrom2), (.int .i64 vTo2), (.int .u64 vNum2), (.string vText2), (.int .i64 vA1), (.int .i64 vB1)])]) Try.call157 (by kernel_rfl)) (h.mono ?_)
    clear h
    rintro e w6 ⟨rfrom1, rto1, rnum1, rtext1, rkids1, r1, rfl, h⟩
    refine ⟨_, rfl, ?_⟩
    refine q0 (.tuple #[(.agg #[(.bool rfrom1), (.bool rto1), (.bool rnum1), (.bool rtext1), (.int .i64 rkids1)]), (.int .i64 r1)]) ?_
    refine q0 (.agg #[(.bool rfrom1), (.bool rto1), (.bool rnum1), (.bool rtext1), (.int .i64 rkids1)]) ?_
    refine q0 (.int .i64 r1) ?_
    refine st_new (O := (.cells #[(.bool false), (.bool false), (.bool false), (.bool false), (.int .i64 0)] 234)) (fun p => .pointer (some p)) (want0 rfl) (x_alloc (Try.zeroValue234 _) rfl) ?_
    intro p3 w7 hn4
    replace h := h p3 w7 hn4
    obtain ⟨hp5, h⟩ := h
    refine st_set (want0 rfl) (x_storeA (a := p3) (vs := [(.bool rfrom1), (.bool rto1), (.bool rnum1), (.bool rtext1), (.int .i64 rkids1)]) (by kernel_rfl) (by kernel_rfl) rfl (Try.sizeOf234 _) rfl hp5) ?_
    intro w8 hn3
    replace h := h w8 hn3
    refine q0 (.int .i64 r1) ?_
    refine wpL_nil ?_
    refine th_n ?_
    refine wpE_join (fun ρ w => ∃ e1 : Int, Has ρ [(1, (.int .i64 inside1)), (2, (.pointer seen1)), (3, (.pointer (some p1))), (7, (.pointer (some p2))), (8, (.pointer (some p3))), (9, (.int .i64 e1))] ∧ m_term_looks_j2 inside1 seen1 p1 p2 p3 e1 w K) ?_ ?_
    · rintro ρ w ⟨e1, hH, h⟩
      unfold m_term_looks_j2 at h
      refine wpE_has hH ?_
      clear hH
      refine wpE_join (fun ρ w => ∃ e2 : Int, Has ρ [(1, (.int .i64 inside1)), (2, (.pointer seen1)), (3, (.pointer (some p1))), (9, (.int .i64 e2))] ∧ m_term_looks_j3 inside1 seen1 p1 e2 w K) ?_ ?_
      · rintro ρ w ⟨e2, hH, h⟩
        unfold m_term_looks_j3 at h
        refine wpE_has hH ?_
        clear hH
        refine wpE_seq ?_
        refine wpE_seq ?_
        refine rg ?_
        refine q0 (.int .i64 0) ?_
        refine wpL_nil ?_
        refine th_n ?_
        refine wpE_block ?_
        obtain ⟨I1, mu1, h0, hr⟩ := h
        refine wpE_loop (σ := Int × Int × World) (fun s ρ w => w = s.2.2 ∧ Has ρ [(1, (.int .i64 inside1)), (2, (.pointer seen1)), (3, (.pointer (some p1))), (9, (.int .i64 s.1)), (10, (.int .i64 s.2.1))] ∧ I1 s.1 s.2.1 s.2.2) (fun s => mu1 s.1 s.2.1 s.2.2) (e2, 0, w) ⟨rfl, Has.mk (by kernel_rfl), h0⟩ ?_
        rintro ⟨e3, i1, wl1⟩ ρ w ⟨hw, hH, hI⟩
        obtain rfl : wl1 = w := (show w = wl1 from hw).symm
        replace hH : Has ρ [(1, (.int .i64 inside1)), (2, (.pointer seen1)), (3, (.pointer (some p1))), (9, (.int .i64 e3)), (10, (.int .i64 i1))] := hH
        have h := hr e3 i1 wl1 hI
        clear hr h0
        unfold m_term_looks_l4 at h
        refine wpE_has hH ?_
        clear hH hI
        refine wpE_seq ?_
        refine wpE_seq ?_
        refine rg ?_
        refine q0 (.int .i64 i1) ?_
        refine q0 (.pointer (some (p1.add 5))) ?_
        obtain ⟨v2, hv4, h⟩ := h
        refine q2 v2.v (x_load (a := (p1.add 5)) (by kernel_rfl) (Try.isAgg22 _) hv4) ?_
        refine q0 (.int .i64 (v2.len : Int)) ?_
        refine q0 (.bool (decide (i1 < (v2.len : Int)))) ?_
        refine q0 (.bool (decide (i1 < (v2.len : Int)))) ?_
        rcases Bool.eq_false_or_eq_true (decide (i1 < (v2.len : Int))) with hg1 | hg1
        · replace h := h.1 hg1
          refine q1 (.int .i64 e3) (want1 rfl (yD 51 hg1)) ?_
          refine q1 (.bool ((e3 : Int) == 0)) (want1 rfl (yD 51 hg1)) ?_
          refine q2 (.bool ((e3 : Int) == 0)) (x_pickT (b := (decide (i1 < (v2.len : Int)))) (by kernel_rfl) hg1 (by kernel_rfl)) ?_
          refine wpL_nil ?_
          refine th_n ?_
          refine wpE_cond (t := ((e3 : Int) == 0)) (by kernel_rfl) (fun hc1 => ?_) (fun hc1 => ?_)
          · replace h := h.1 hc1
            refine wpE_skip ?_
            refine th_n ?_
            refine wpE_seq ?_
            refine wpE_block ?_
            refine rg ?_
            refine q0 (.pointer (some (p1.add 5))) ?_
            obtain ⟨v3, hv3, h⟩ := h
            refine q2 v3.v (x_load (a := (p1.add 5)) (by kernel_rfl) (Try.isAgg22 _) hv3) ?_
            refine q0 (.int .i64 i1) ?_
            obtain ⟨a3, hv2, h⟩ := h
            refine q2 (.pointer (some a3)) (x_indexAddr (s := v3) (k := .i64) (i := i1) (by kernel_rfl) (by kernel_rfl) (Try.runUnderlying22 _) (Try.sizeOf116 _) hv2) ?_
            obtain ⟨vKind3, vFrom3, vTo3, vNum3, vText3, vKids2, hv1, h⟩ := h
            refine q2 (.agg #[(.int .i64 vKind3), (.int .i64 vFrom3), (.int .i64 vTo3), (.int .u64 vNum3), (.string vText3), vKids2.v]) (x_loadA (a := a3) (vs := [(.int .i64 vKind3), (.int .i64 vFrom3), (.int .i64 vTo3), (.int .u64 vNum3), (.string vText3), vKids2.v]) (by kernel_rfl) (Try.isAgg116 _) (Try.sizeOf116 _) rfl hv1) ?_
            refine q0 (.int .i64 inside1) ?_
            refine q0 (.int .i64 (IntKind.i64.wrap (inside1 + 1))) ?_
            refine q0 (.pointer seen1) ?_
            refine st_call (want0 rfl) (x_callE (args := #[(.agg #[(.int .i64 vKind3), (.int .i64 vFrom3), (.int .i64 vTo3), (.int .u64 vNum3), (.string vText3), vKids2.v]), (.int .i64 (IntKind.i64.wrap (inside1 + 1))), (.pointer seen1)]) Try.call116 (by kernel_rfl)) (h.mono ?_)
            clear h
            rintro e w9 ⟨r2, rfl, h⟩
            refine ⟨_, rfl, ?_⟩
            refine q0 (.int .i64 r2) ?_
            refine wpL_nil ?_
            refine bl_n ?_
            refine th_n ?_
            refine rg ?_
            refine q0 (.int .i64 i1) ?_
            refine q0 (.int .i64 (IntKind.i64.wrap (i1 + 1))) ?_
            refine q0 (.int .i64 (IntKind.i64.wrap (i1 + 1))) ?_
            refine wpL_nil ?_
            refine th_n ?_
            exact ⟨(r2, (IntKind.i64.wrap (i1 + 1)), w9), ⟨rfl, Has.mk (by kernel_rfl), h.1⟩, h.2⟩
          · replace h := h.2 hc1
            refine wpE_exit ?_
            refine th_x ?_
            refine th_x ?_
            refine bl_eq ?_
            refine th_n ?_
            refine wpE_seq ?_
            refine rg ?_
            refine q0 (.int .i64 e3) ?_
            refine q0 (.int .i64 e3) ?_
            refine wpL_nil ?_
            refine th_n ?_
            refine wpE_ret ?_
            refine res1 (.inl rfl) Try.results116 (v := (.int .i64 e3)) (by kernel_rfl) ?_
            exact ⟨e3, rfl, h⟩
        · replace h := h.2 hg1
          refine st_not (unwant rfl (yD 51 hg1) rfl) ?_
          refine st_not (unwant rfl (yD 51 hg1) rfl) ?_
          refine q2 (.bool false) (x_pickF (b := (decide (i1 < (v2.len : Int)))) (by kernel_rfl) hg1 (by kernel_rfl)) ?_
          refine wpL_nil ?_
          refine th_n ?_
          refine wpE_condF (by kernel_rfl) ?_
          refine wpE_exit ?_
          refine th_x ?_
          refine th_x ?_
          refine bl_eq ?_
          refine th_n ?_
          refine wpE_seq ?_
          refine rg ?_
          refine q0 (.int .i64 e3) ?_
          refine q0 (.int .i64 e3) ?_
          refine wpL_nil ?_
          refine th_n ?_
          refine wpE_ret ?_
          refine res1 (.inl rfl) Try.results116 (v := (.int .i64 e3)) (by kernel_rfl) ?_
          exact ⟨e3, rfl, h⟩
      · skip
        refine wpE_seq ?_
        refine rg ?_
        refine q0 (.int .i64 e1) ?_
        refine q0 (.bool ((e1 : Int) == 0)) ?_
        refine wpL_nil ?_
        refine th_n ?_
        refine wpE_cond (t := ((e1 : Int) == 0)) (by kernel_rfl) (fun hc2 => ?_) (fun hc2 => ?_)
        · replace h := h.1 hc2
          refine rg ?_
          obtain ⟨vfrom1, vto1, vnum1, vtext1, vkids1, hv6, h⟩ := h
          refine q2 (.agg #[(.bool vfrom1), (.bool vto1), (.bool vnum1), (.bool vtext1), (.int .i64 vkids1)]) (x_loadA (a := p3) (vs := [(.bool vfrom1), (.bool vto1), (.bool vnum1), (.bool vtext1), (.int .i64 vkids1)]) (by kernel_rfl) (Try.isAgg234 _) (Try.sizeOf234 _) rfl hv6) ?_
          obtain ⟨vKind4, vFrom4, vTo4, vNum4, vText4, vA2, vB2, hv5, h⟩ := h
          refine q2 (.agg #[(.int .i64 vKind4), (.int .i64 vFrom4), (.int .i64 vTo4), (.int .u64 vNum4), (.string vText4), (.int .i64 vA2), (.int .i64 vB2)]) (x_loadA (a := p2) (vs := [(.int .i64 vKind4), (.int .i64 vFrom4), (.int .i64 vTo4), (.int .u64 vNum4), (.string vText4), (.int .i64 vA2), (.int .i64 vB2)]) (by kernel_rfl) (Try.isAgg93 _) (Try.sizeOf93 _) rfl hv5) ?_
          refine st_call (want0 rfl) (x_callE (args := #[(.agg #[(.bool vfrom1), (.bool vto1), (.bool vnum1), (.bool vtext1), (.int .i64 vkids1)]), (.agg #[(.int .i64 vKind4), (.int .i64 vFrom4), (.int .i64 vTo4), (.int .u64 vNum4), (.string vText4), (.int .i64 vA2), (.int .i64 vB2)])]) Try.call158 (by kernel_rfl)) (h.mono ?_)
          clear h
          rintro e w10 ⟨r3, rfl, h⟩
          refine ⟨_, rfl, ?_⟩
          refine q0 (.int .i64 r3) ?_
          refine wpL_nil ?_
          refine th_n ?_
          exact ⟨r3, Has.mk (by kernel_rfl), h⟩
        · replace h := h.2 hc2
          refine wpE_skip ?_
          refine th_n ?_
          exact ⟨e1, Has.mk (by kernel_rfl), h⟩
    · skip
      refine wpE_seq ?_
      refine rg ?_
      refine q0 (.int .i64 r1) ?_
      refine q0 (.bool ((r1 : Int) == 0)) ?_
      refine q0 (.bool ((r1 : Int) == 0)) ?_
      rcases Bool.eq_false_or_eq_true ((r1 : Int) == 0) with hg2 | hg2
      · replace h := h.1 hg2
        refine q1 (.pointer (some (p1.add 5))) (want1 rfl (yD 33 hg2)) ?_
        obtain ⟨v4, hv8, h⟩ := h
        refine stp (v := v4.v) (want1 rfl (yD 33 hg2)) (x_load (a := (p1.add 5)) (by kernel_rfl) (Try.isAgg22 _) hv8) ?_
        refine q1 (.int .i64 (v4.len : Int)) (want1 rfl (yD 33 hg2)) ?_
        refine q1 (.pointer (some (p3.add 4))) (want1 rfl (yD 33 hg2)) ?_
        obtain ⟨v5, hv7, h⟩ := h
        refine stp (v := (.int .i64 v5)) (want1 rfl (yD 33 hg2)) (x_load (a := (p3.add 4)) (by kernel_rfl) (Try.isAgg3 _) hv7) ?_
        refine q1 (.bool (((v4.len : Int) : Int) != v5)) (want1 rfl (yD 33 hg2)) ?_
        refine q2 (.bool (((v4.len : Int) : Int) != v5)) (x_pickT (b := ((r1 : Int) == 0)) (by kernel_rfl) hg2 (by kernel_rfl)) ?_
        refine wpL_nil ?_
        refine th_n ?_
        refine wpE_cond (t := (((v4.len : Int) : Int) != v5)) (by kernel_rfl) (fun hc3 => ?_) (fun hc3 => ?_)
        · replace h := h.1 hc3
          refine rg ?_
          refine q0 (.int .i64 53) ?_
          refine wpL_nil ?_
          refine th_n ?_
          exact ⟨53, Has.mk (by kernel_rfl), h⟩
        · replace h := h.2 hc3
          refine wpE_skip ?_
          refine th_n ?_
          exact ⟨r1, Has.mk (by kernel_rfl), h⟩
      · replace h := h.2 hg2
        refine st_not (unwant rfl (yD 33 hg2) rfl) ?_
        refine st_not (unwant rfl (yD 33 hg2) rfl) ?_
        refine st_not (unwant rfl (yD 33 hg2) rfl) ?_
        refine st_not (unwant rfl (yD 33 hg2) rfl) ?_
        refine st_not (unwant rfl (yD 33 hg2) rfl) ?_
        refine st_not (unwant rfl (yD 33 hg2) rfl) ?_
        refine q2 (.bool false) (x_pickF (b := ((r1 : Int) == 0)) (by kernel_rfl) hg2 (by kernel_rfl)) ?_
        refine wpL_nil ?_
        refine th_n ?_
        refine wpE_condF (by kernel_rfl) ?_
        refine wpE_skip ?_
        refine th_n ?_
        exact ⟨r1, Has.mk (by kernel_rfl), h⟩
  · skip
    refine wpE_seq ?_
    refine rg ?_
    refine q0 (.pointer seen1) ?_
    obtain ⟨a4, hp6, h⟩ := h
    refine q2 (.pointer (some a4)) (x_nilCheck (p := seen1) (by kernel_rfl) hp6) ?_
    obtain ⟨v6, hv12, h⟩ := h
    refine q2 (.int .i64 v6) (x_load (a := a4) (by kernel_rfl) (Try.isAgg3 _) hv12) ?_
    refine q0 (.bool (decide (v6 ≥ 4096))) ?_
    refine q0 (.bool (decide (v6 ≥ 4096))) ?_
    rcases Bool.eq_false_or_eq_true (decide (v6 ≥ 4096)) with hg3 | hg3
    · replace h := h.1 hg3
      refine st_not (unwant rfl (yD 15 hg3) rfl) ?_
      refine st_not (unwant rfl (yD 15 hg3) rfl) ?_
      refine q2 (.bool true) (x_pickT (b := (decide (v6 ≥ 4096))) (by kernel_rfl) hg3 (by kernel_rfl)) ?_
      refine wpL_nil ?_
      refine th_n ?_
      refine wpE_condT (by kernel_rfl) ?_
      refine wpE_seq ?_
      refine rg ?_
      refine q0 (.int .i64 52) ?_
      refine wpL_nil ?_
      refine th_n ?_
      refine wpE_ret ?_
      refine th_r ?_
      refine res1 (.inl rfl) Try.results116 (v := (.int .i64 52)) (by kernel_rfl) ?_
      exact ⟨52, rfl, h⟩
    · replace h := h.2 hg3
      refine q1 (.int .i64 inside1) (want1 rfl (yD 15 hg3)) ?_
      refine q1 (.bool (decide (inside1 ≥ 64))) (want1 rfl (yD 15 hg3)) ?_
      refine q2 (.bool (decide (inside1 ≥ 64))) (x_pickF (b := (decide (v6 ≥ 4096))) (by kernel_rfl) hg3 (by kernel_rfl)) ?_
      refine wpL_nil ?_
      refine th_n ?_
      refine wpE_cond (t := (decide (inside1 ≥ 64))) (by kernel_rfl) (fun hc4 => ?_) (fun hc4 => ?_)
      · replace h := h.1 hc4
        refine wpE_seq ?_
        refine rg ?_
        refine q0 (.int .i64 52) ?_
        refine wpL_nil ?_
        refine th_n ?_
        refine wpE_ret ?_
        refine th_r ?_
        refine res1 (.inl rfl) Try.results116 (v := (.int .i64 52)) (by kernel_rfl) ?_
        exact ⟨52, rfl, h⟩
      · replace h := h.2 hc4
        refine wpE_skip ?_
        refine th_n ?_
        exact ⟨Has.mk (by kernel_rfl), h⟩

def m_term_Pool_grow_l1 (p1 : Option Addr) (p3 : Addr) (p4 : Addr) (v1 : Sl) (x1 : Int) (wl1 : World) (Kc1 : Int → World → Prop) (K : Int → Int → World → Prop) : Prop :=
  Br (decide (x1 < (v1.len : Int)))
    (∃ a1 : Addr, At v1 x1 6 a1 ∧
    ∃ vKind2 : Int, ∃ vFrom2 : Int, ∃ vTo2 : Int, ∃ vNum2 : Int, ∃ vText2 : ByteArray, ∃ vKids2 : Sl, Row wl1 a1 [(.int .i64 vKind2), (.int .i64 vFrom2), (.int .i64 vTo2), (.int .u64 vNum2), (.string vText2), vKids2.v] ∧
    ∀ (p5 : Addr) (w6 : World), New wl1 (.cells #[(.int .i64 0), (.int .i64 0), (.int .i64 0), (.int .u64 0), (.string (⟨#[]⟩ : ByteArray)), Sl.nil.v] 116) p5 w6 →
    (∀ j, j < 6 → CanW w6 (p5.add j)) ∧ ∀ w7 : World, w7 = storeRow w6 p5 [(.int .i64 vKind2), (.int .i64 vFrom2), (.int .i64 vTo2), (.int .u64 vNum2), (.string vText2), vKids2.v] →
    ∃ vKind3 : Int, ∃ vFrom3 : Int, ∃ vTo3 : Int, ∃ vNum3 : Int, ∃ vText3 : ByteArray, ∃ vKids3 : Sl, Row w7 p5 [(.int .i64 vKind3), (.int .i64 vFrom3), (.int .i64 vTo3), (.int .u64 vNum3), (.string vText3), vKids3.v] ∧
    Calls Try.prog 117 #[(.pointer p1), (.agg #[(.int .i64 vKind3), (.int .i64 vFrom3), (.int .i64 vTo3), (.int .u64 vNum3), (.string vText3), vKids3.v])] w7 (fun e w8 => ∃ r1 : Int, ∃ r2 : Int, e = .returned (.tuple #[(.int .i64 r1), (.int .i64 r2)]) ∧ 
      Br ((r2 : Int) != 0)
        (K 0 r2 w8)
        (∃ a2 : Addr, At (Sl.mk (some p4) 2 2) x1 1 a2 ∧
        ∃ v2 : Option Addr, w8.cell? a2 = some (.pointer v2) ∧
        ∃ a3 : Addr, v2 = some a3 ∧
        CanW w8 a3 ∧ ∀ w9 : World, w9 = w8.setCell a3 (.int .i64 r1) →
        Kc1 (IntKind.i64.wrap (x1 + 1)) w9)))
    (∃ vKind4 : Int, ∃ vFrom4 : Int, ∃ vTo4 : Int, ∃ vNum4 : Int, ∃ vText4 : ByteArray, ∃ vA1 : Int, ∃ vB1 : Int, Row wl1 p3 [(.int .i64 vKind4), (.int .i64 vFrom4), (.int .i64 vTo4), (.int .u64 vNum4), (.string vText4), (.int .i64 vA1), (.int .i64 vB1)] ∧
    Calls Try.prog 134 #[(.pointer p1), (.agg #[(.int .i64 vKind4), (.int .i64 vFrom4), (.int .i64 vTo4), (.int .u64 vNum4), (.string vText4), (.int .i64 vA1), (.int .i64 vB1)])] wl1 (fun e w10 => ∃ r3 : Int, ∃ r4 : Int, e = .returned (.tuple #[(.int .i64 r3), (.int .i64 r4)]) ∧ 
      K r3 r4 w10))
def m_term_Pool_grow (p1 : Option Addr) (xKind1 : Int) (xFrom1 : Int) (xTo1 : Int) (xNum1 : Int) (xText1 : ByteArray) (xKids1 : Sl) (w : World) (K : Int → Int → World → Prop) : Prop :=
  ∀ (p2 : Addr) (w1 : World), New w (.cells #[(.int .i64 xKind1), (.int .i64 xFrom1), (.int .i64 xTo1), (.int .u64 xNum1), (.string xText1), xKids1.v] 116) p2 w1 →
  ∃ vKind1 : Int, ∃ vFrom1 : Int, ∃ vTo1 : Int, ∃ vNum1 : Int, ∃ vText1 : ByteArray, ∃ vKids1 : Sl, Row w1 p2 [(.int .i64 vKind1), (.int .i64 vFrom1), (.int .i64 vTo1), (.int .u64 vNum1), (.string vText1), vKids1.v] ∧
  Calls Try.prog 156 #[(.agg #[(.int .i64 vKind1), (.int .i64 vFrom1), (.int .i64 vTo1), (.int .u64 vNum1), (.string vText1), vKids1.v])] w1 (fun e w2 => ∃ rKind1 : Int, ∃ rFrom1 : Int, ∃ rTo1 : Int, ∃ rNum1 : Int, ∃ rText1 : ByteArray, ∃ rA1 : Int, ∃ rB1 : Int, e = .returned (.agg #[(.int .i64 rKind1), (.int .i64 rFrom1), (.int .i64 rTo1), (.int .u64 rNum1), (.string rText1), (.int .i64 rA1), (.int .i64 rB1)]) ∧ 
    ∀ (p3 : Addr) (w3 : World), New w2 (.cells #[(.int .i64 0), (.int .i64 0), (.int .i64 0), (.int .u64 0), (.string (⟨#[]⟩ : ByteArray)), (.int .i64 0), (.int .i64 0)] 93) p3 w3 →
    (∀ j, j < 7 → CanW w3 (p3.add j)) ∧ ∀ w4 : World, w4 = storeRow w3 p3 [(.int .i64 rKind1), (.int .i64 rFrom1), (.int .i64 rTo1), (.int .u64 rNum1), (.string rText1), (.int .i64 rA1), (.int .i64 rB1)] →
    ∀ (p4 : Addr) (w5 : World), New w4 (.cells #[(.pointer (some (p3.add 5))), (.pointer (some (p3.add 6)))] 256) p4 w5 →
    ∃ v1 : Sl, w5.cell? (p2.add 5) = some v1.v ∧
    ∃ (I1 : Int → World → Prop) (mu1 : Int → World → Nat), I1 0 w5 ∧
      ∀ (x1 : Int) (wl1 : World), I1 x1 wl1 → m_term_Pool_grow_l1 p1 p3 p4 v1 x1 wl1 (fun y'0 w' => I1 y'0 w' ∧ mu1 y'0 w' < mu1 x1 wl1) K)
set_option maxRecDepth 100000 in
set_option maxHeartbeats 4000000 in
theorem w_term_Pool_grow (p1 : Option Addr) (xKind1 : Int) (xFrom1 : Int) (xTo1 : Int) (xNum1 : Int) (xText1 : ByteArray) (xKids1 : Sl) (w : World) (K : Int → Int → World → Prop) (h : m_term_Pool_grow p1 xKind1 xFrom1 xTo1 xNum1 xText1 xKids1 w K) :
    Calls Try.prog 117 #[(.pointer p1), (.agg #[(.int .i64 xKind1), (.int .i64 xFrom1), (.int .i64 xTo1), (.int .u64 xNum1), (.string xText1), xKids1.v])] w (fun e w' => ∃ r5 : Int, ∃ r6 : Int, e = .returned (.tuple #[(.int .i64 r5), (.int .i64 r6)]) ∧ K r5 r6 w') := by
  unfold m_term_Pool_grow at h
  refine calls_of_wpE (args := [(.pointer p1), (.agg #[(.int .i64 xKind1), (.int .i64 xFrom1), (.int .i64 xTo1), (.int .u64 xNum1), (.string xText1), xKids1.v])]) Try.func117 rfl Try.ntmps117 (Nat.le_of_ble_eq_true rfl) ?_
  refine wpE_seq ?_
  refine rg ?_
  refine st_new (O := (.cells #[(.int .i64 xKind1), (.int .i64 xFrom1), (.int .i64 xTo1), (.int .u64 xNum1), (.string xText1), xKids1.v] 116)) (fun p => .pointer (some p)) (want0 rfl) (x_box (cs := #[(.int .i64 xKind1), (.int .i64 xFrom1), (.int .i64 xTo1), (.int .u64 xNum1), (.string xText1), xKids1.v]) (by kernel_rfl)) ?_
  intro p2 w1 hn7
  replace h := h p2 w1 hn7
  refine q0 (.int .i64 0) ?_
  refine q0 (.int .i64 0) ?_
  refine wpL_nil ?_
  refine th_n ?_
  refine wpE_seq ?_
  refine rg ?_
  obtain ⟨vKind1, vFrom1, vTo1, vNum1, vText1, vKids1, hv8, h⟩ := h
  refine q2 (.agg #[(.int .i64 vKind1), (.int .i64 vFrom1), (.int .i64 vTo1), (.int .u64 vNum1), (.string vText1), vKids1.v]) (x_loadA (a := p2) (vs := [(.int .i64 vKind1), (.int .i64 vFrom1), (.int .i64 vTo1), (.int .u64 vNum1), (.string vText1), vKids1.v]) (by kernel_rfl) (Try.isAgg116 _) (Try.sizeOf116 _) rfl hv8) ?_
  refine st_call (want0 rfl) (x_callE (args := #[(.agg #[(.int .i64 vKind1), (.int .i64 vFrom1), (.int .i64 vTo1), (.int .u64 vNum1), (.string vText1), vKids1.v])]) Try.call156 (by kernel_rfl)) (h.mono ?_)
  clear h
  rintro e w2 ⟨rKind1, rFrom1, rTo1, rNum1, rText1, rA1, rB1, rfl, h⟩
  refine ⟨_, rfl, ?_⟩
  refine st_new (O := (.cells #[(.int .i64 0), (.int .i64 0), (.int .i64 0), (.int .u64 0), (.string (⟨#[]⟩ : ByteArray)), (.int .i64 0), (.int .i64 0)] 93)) (fun p => .pointer (some p)) (want0 rfl) (x_alloc (Try.zeroValue93 _) rfl) ?_
  intro p3 w3 hn6
  replace h := h p3 w3 hn6
  obtain ⟨hp1, h⟩ := h
  refine st_set (want0 rfl) (x_storeA (a := p3) (vs := [(.int .i64 rKind1), (.int .i64 rFrom1), (.int .i64 rTo1), (.int .u64 rNum1), (.string rText1), (.int .i64 rA1), (.int .i64 rB1)]) (by kernel_rfl) (by kernel_rfl) rfl (Try.sizeOf93 _) rfl hp1) ?_
  intro w4 hn1
  replace h := h w4 hn1
  refine wpL_nil ?_
  refine th_n ?_
  refine wpE_seq ?_
  refine rg ?_
  refine q0 (.pointer (some (p3.add 5))) ?_
  refine q0 (.pointer (some (p3.add 6))) ?_
  refine st_new (O := (.cells #[(.pointer (some (p3.add 5))), (.pointer (some (p3.add 6)))] 256)) (fun p => (Sl.mk (some p) 2 2).v) (want0 rfl) (x_buildSlice (vs := #[(0, (.pointer (some (p3.add 5)))), (1, (.pointer (some (p3.add 6))))]) (by kernel_rfl) (by kernel_rfl)) ?_
  intro p4 w5 hn5
  replace h := h p4 w5 hn5
  refine q0 ((Sl.mk (some p4) 2 2).v) ?_
  refine wpL_nil ?_
  refine th_n ?_
  refine wpE_seq ?_
  refine wpE_seq ?_
  refine rg ?_
  refine q0 (.pointer (some (p2.add 5))) ?_
  obtain ⟨v1, hv7, h⟩ := h
  refine q2 v1.v (x_load (a := (p2.add 5)) (by kernel_rfl) (Try.isAgg22 _) hv7) ?_
  refine q0 (.int .i64 (v1.len : Int)) ?_
  refine q0 (.int .i64 0) ?_
  refine wpL_nil ?_
  refine th_n ?_
  refine wpE_block ?_
  obtain ⟨I1, mu1, h0, hr⟩ := h
  refine wpE_loop (σ := Int × World) (fun s ρ w => w = s.2 ∧ Has ρ [(0, (.pointer p1)), (6, (.pointer (some p3))), (7, (Sl.mk (some p4) 2 2).v), (18, v1.v), (19, (.int .i64 (v1.len : Int))), (20, (.int .i64 s.1))] ∧ I1 s.1 s.2) (fun s => mu1 s.1 s.2) (0, w5) ⟨rfl, Has.mk (by kernel_rfl), h0⟩ ?_
  rintro ⟨x1, wl1⟩ ρ w ⟨hw, hH, hI⟩
  obtain rfl : wl1 = w := (show w = wl1 from hw).symm
  replace hH : Has ρ [(0, (.pointer p1)), (6, (.pointer (some p3))), (7, (Sl.mk (some p4) 2 2).v), (18, v1.v), (19, (.int .i64 (v1.len : Int))), (20, (.int .i64 x1))] := hH
  have h := hr x1 wl1 hI
  clear hr h0
  unfold m_term_Pool_grow_l1 at h
  refine wpE_has hH ?_
  clear hH hI
  refine wpE_seq ?_
  refine rg ?_
  refine q0 (.bool (decide (x1 < (v1.len : Int)))) ?_
  refine wpL_nil ?_
  refine th_n ?_
  refine wpE_seq ?_
  refine wpE_cond (t := (decide (x1 < (v1.len : Int)))) (by kernel_rfl) (fun hc1 => ?_) (fun hc1 => ?_)
  · replace h := h.1 hc1
    refine wpE_skip ?_
    refine th_n ?_
    refine wpE_seq ?_
    refine wpE_block ?_
    refine wpE_seq ?_
    refine rg ?_
    refine q0 (.int .i64 x1) ?_
    obtain ⟨a1, hv5, h⟩ := h
    refine q2 (.pointer (some a1)) (x_indexAddr (s := v1) (k := .i64) (i := x1) (by kernel_rfl) (by kernel_rfl) (Try.runUnderlying22 _) (Try.sizeOf116 _) hv5) ?_
    obtain ⟨vKind2, vFrom2, vTo2, vNum2, vText2, vKids2, hv4, h⟩ := h
    refine q2 (.agg #[(.int .i64 vKind2), (.int .i64 vFrom2), (.int .i64 vTo2), (.int .u64 vNum2), (.string vText2), vKids2.v]) (x_loadA (a := a1) (vs := [(.int .i64 vKind2), (.int .i64 vFrom2), (.int .i64 vTo2), (.int .u64 vNum2), (.string vText2), vKids2.v]) (by kernel_rfl) (Try.isAgg116 _) (Try.sizeOf116 _) rfl hv4) ?_
    refine st_new (O := (.cells #[(.int .i64 0), (.int .i64 0), (.int .i64 0), (.int .u64 0), (.string (⟨#[]⟩ : ByteArray)), Sl.nil.v] 116)) (fun p => .pointer (some p)) (want0 rfl) (x_alloc (Try.zeroValue116 _) rfl) ?_
    intro p5 w6 hn4
    replace h := h p5 w6 hn4
    refine q0 (.int .i64 x1) ?_
    obtain ⟨hp2, h⟩ := h
    refine st_set (want0 rfl) (x_storeA (a := p5) (vs := [(.int .i64 vKind2), (.int .i64 vFrom2), (.int .i64 vTo2), (.int .u64 vNum2), (.string vText2), vKids2.v]) (by kernel_rfl) (by kernel_rfl) rfl (Try.sizeOf116 _) rfl hp2) ?_
    intro w7 hn2
    replace h := h w7 hn2
    refine wpL_nil ?_
    refine th_n ?_
    refine wpE_seq ?_
    refine rg ?_
    refine q0 (.pointer p1) ?_
    obtain ⟨vKind3, vFrom3, vTo3, vNum3, vText3, vKids3, hv3, h⟩ := h
    refine q2 (.agg #[(.int .i64 vKind3), (.int .i64 vFrom3), (.int .i64 vTo3), (.int .u64 vNum3), (.string vText3), vKids3.v]) (x_loadA (a := p5) (vs := [(.int .i64 vKind3), (.int .i64 vFrom3), (.int .i64 vTo3), (.int .u64 vNum3), (.string vText3), vKids3.v]) (by kernel_rfl) (Try.isAgg116 _) (Try.sizeOf116 _) rfl hv3) ?_
    refine st_call (want0 rfl) (x_callE (args := #[(.pointer p1), (.agg #[(.int .i64 vKind3), (.int .i64 vFrom3), (.int .i64 vTo3), (.int .u64 vNum3), (.string vText3), vKids3.v])]) Try.call117 (by kernel_rfl)) (h.mono ?_)
    clear h
    rintro e w8 ⟨r1, r2, rfl, h⟩
    refine ⟨_, rfl, ?_⟩
    refine q0 (.tuple #[(.int .i64 r1), (.int .i64 r2)]) ?_
    refine q0 (.int .i64 r1) ?_
    refine q0 (.int .i64 r2) ?_
    refine q0 (.int .i64 r1) ?_
    refine q0 (.int .i64 r2) ?_
    refine wpL_nil ?_
    refine th_n ?_
    refine wpE_seq ?_
    refine wpE_seq ?_
    refine rg ?_
    refine q0 (.int .i64 r2) ?_
    refine q0 (.bool ((r2 : Int) != 0)) ?_
    refine wpL_nil ?_
    refine th_n ?_
    refine wpE_cond (t := ((r2 : Int) != 0)) (by kernel_rfl) (fun hc2 => ?_) (fun hc2 => ?_)
    · replace h := h.1 hc2
      refine wpE_seq ?_
      refine rg ?_
      refine q0 (.int .i64 r2) ?_
      refine q0 (.int .i64 0) ?_
      refine q0 (.int .i64 r2) ?_
      refine wpL_nil ?_
      refine th_n ?_
      refine wpE_ret ?_
      refine th_r ?_
      refine bl_r ?_
      refine th_r ?_
      refine th_r ?_
      refine bl_r ?_
      refine th_r ?_
      refine res2 (.inl rfl) Try.results117 (v := (.int .i64 0)) (by kernel_rfl) (v' := (.int .i64 r2)) (by kernel_rfl) ?_
      exact ⟨0, r2, rfl, h⟩
    · replace h := h.2 hc2
      refine wpE_skip ?_
      refine th_n ?_
      refine rg ?_
      refine q0 ((Sl.mk (some p4) 2 2).v) ?_
      refine q0 (.int .i64 x1) ?_
      obtain ⟨a2, hv2, h⟩ := h
      refine q2 (.pointer (some a2)) (x_indexAddr (s := (Sl.mk (some p4) 2 2)) (k := .i64) (i := x1) (by kernel_rfl) (by kernel_rfl) (Try.runUnderlying257 _) (Try.sizeOf256 _) hv2) ?_
      obtain ⟨v2, hv1, h⟩ := h
      refine q2 (.pointer v2) (x_load (a := a2) (by kernel_rfl) (Try.isAgg256 _) hv1) ?_
      refine q0 (.int .i64 r1) ?_
      obtain ⟨a3, hp3, h⟩ := h
      refine q2 (.pointer (some a3)) (x_nilCheck (p := v2) (by kernel_rfl) hp3) ?_
      obtain ⟨hp4, h⟩ := h
      refine st_set (want0 rfl) (x_store (a := a3) (v := (.int .i64 r1)) (by kernel_rfl) (by kernel_rfl) rfl (Try.sizeOf41 _) hp4) ?_
      intro w9 hn3
      replace h := h w9 hn3
      refine wpL_nil ?_
      refine bl_n ?_
      refine th_n ?_
      refine rg ?_
      refine q0 (.int .i64 (IntKind.i64.wrap (x1 + 1))) ?_
      refine q0 (.int .i64 (IntKind.i64.wrap (x1 + 1))) ?_
      refine wpL_nil ?_
      refine th_n ?_
      exact ⟨((IntKind.i64.wrap (x1 + 1)), w9), ⟨rfl, Has.mk (by kernel_rfl), h.1⟩, h.2⟩
  · replace h := h.2 hc1
    refine wpE_exit ?_
    refine th_x ?_
    refine th_x ?_
    refine bl_eq ?_
    refine th_n ?_
    refine wpE_seq ?_
    refine rg ?_
    refine q0 (.pointer p1) ?_
    obtain ⟨vKind4, vFrom4, vTo4, vNum4, vText4, vA1, vB1, hv6, h⟩ := h
    refine q2 (.agg #[(.int .i64 vKind4), (.int .i64 vFrom4), (.int .i64 vTo4), (.int .u64 vNum4), (.string vText4), (.int .i64 vA1), (.int .i64 vB1)]) (x_loadA (a := p3) (vs := [(.int .i64 vKind4), (.int .i64 vFrom4), (.int .i64 vTo4), (.int .u64 vNum4), (.string vText4), (.int .i64 vA1), (.int .i64 vB1)]) (by kernel_rfl) (Try.isAgg93 _) (Try.sizeOf93 _) rfl hv6) ?_
    refine st_call (want0 rfl) (x_callE (args := #[(.pointer p1), (.agg #[(.int .i64 vKind4), (.int .i64 vFrom4), (.int .i64 vTo4), (.int .u64 vNum4), (.string vText4), (.int .i64 vA1), (.int .i64 vB1)])]) Try.call134 (by kernel_rfl)) (h.mono ?_)
    clear h
    rintro e w10 ⟨r3, r4, rfl, h⟩
    refine ⟨_, rfl, ?_⟩
    refine q0 (.int .i64 r3) ?_
    refine q0 (.int .i64 r4) ?_
    refine q0 (.int .i64 r3) ?_
    refine q0 (.int .i64 r4) ?_
    refine wpL_nil ?_
    refine th_n ?_
    refine wpE_ret ?_
    refine res2 (.inl rfl) Try.results117 (v := (.int .i64 r3)) (by kernel_rfl) (v' := (.int .i64 r4)) (by kernel_rfl) ?_
    exact ⟨r3, r4, rfl, h⟩

def m_term_Pool_cut_l1 (p1 : Option Addr) (n1 : Int) (s1 : Sl) (x1 : Int) (wl1 : World) (Kc1 : Int → World → Prop) (K : World → Prop) : Prop :=
  Br (decide (x1 < (s1.len : Int)))
    (∃ a2 : Addr, At s1 x1 9 a2 ∧
    ∃ vnodeKind1 : Int, ∃ vnodeFrom1 : Int, ∃ vnodeTo1 : Int, ∃ vnodeNum1 : Int, ∃ vnodeText1 : ByteArray, ∃ vnodeA1 : Int, ∃ vnodeB1 : Int, ∃ vsize1 : Int, ∃ vdepth1 : Int, Row wl1 a2 [(.int .i64 vnodeKind1), (.int .i64 vnodeFrom1), (.int .i64 vnodeTo1), (.int .u64 vnodeNum1), (.string vnodeText1), (.int .i64 vnodeA1), (.int .i64 vnodeB1), (.int .i64 vsize1), (.int .i64 vdepth1)] ∧
    ∀ (p2 : Addr) (w1 : World), New wl1 (.cells #[(.int .i64 0), (.int .i64 0), (.int .i64 0), (.int .u64 0), (.string (⟨#[]⟩ : ByteArray)), (.int .i64 0), (.int .i64 0), (.int .i64 0), (.int .i64 0)] 213) p2 w1 →
    (∀ j, j < 9 → CanW w1 (p2.add j)) ∧ ∀ w2 : World, w2 = storeRow w1 p2 [(.int .i64 vnodeKind1), (.int .i64 vnodeFrom1), (.int .i64 vnodeTo1), (.int .u64 vnodeNum1), (.string vnodeText1), (.int .i64 vnodeA1), (.int .i64 vnodeB1), (.int .i64 vsize1), (.int .i64 vdepth1)] →
    ∃ C1 : World → Prop, C1 w2.drew ∧ ∀ w3, w3 = w2.drew →
    ∃ a3 : Addr, p1 = some a3 ∧
    ∃ v2 : Option Nat, (∀ w', C1 w' → w'.cell? (a3.add 1) = some (.map v2)) ∧
    ∃ vKind1 : Int, ∃ vFrom1 : Int, ∃ vTo1 : Int, ∃ vNum1 : Int, ∃ vText1 : ByteArray, ∃ vA1 : Int, ∃ vB1 : Int, (∀ w', C1 w' → Row w' p2 [(.int .i64 vKind1), (.int .i64 vFrom1), (.int .i64 vTo1), (.int .u64 vNum1), (.string vText1), (.int .i64 vA1), (.int .i64 vB1)]) ∧
    ∃ w4 : World, (Builtin.delete_ #[181, 93] 0 #[(.map v2), (.agg #[(.int .i64 vKind1), (.int .i64 vFrom1), (.int .i64 vTo1), (.int .u64 vNum1), (.string vText1), (.int .i64 vA1), (.int .i64 vB1)])]).run Try.prog w3 = .ok (.tuple #[]) w4 ∧
    Kc1 (IntKind.i64.wrap (x1 + 1)) w4)
    (∃ a4 : Addr, p1 = some a4 ∧
    ∃ v3 : Sl, wl1.cell? a4 = some v3.v ∧
    ∃ s2 : Sl, (Instr.sliceAt 180 v3.v none (some (.int .i64 n1)) none).run Try.prog wl1 = .ok s2.v wl1 ∧
    ∃ a5 : Addr, p1 = some a5 ∧
    CanW wl1 a5 ∧ ∀ w5 : World, w5 = wl1.setCell a5 s2.v →
    K w5)
def m_term_Pool_cut (p1 : Option Addr) (n1 : Int) (w : World) (K : World → Prop) : Prop :=
  ∃ a1 : Addr, p1 = some a1 ∧
  ∃ v1 : Sl, w.cell? a1 = some v1.v ∧
  ∃ s1 : Sl, (Instr.sliceAt 180 v1.v (some (.int .i64 n1)) none none).run Try.prog w = .ok s1.v w ∧
  ∃ (I1 : Int → World → Prop) (mu1 : Int → World → Nat), I1 0 w ∧
    ∀ (x1 : Int) (wl1 : World), I1 x1 wl1 → m_term_Pool_cut_l1 p1 n1 s1 x1 wl1 (fun y'0 w' => I1 y'0 w' ∧ mu1 y'0 w' < mu1 x1 wl1) K
set_option maxRecDepth 100000 in
set_option maxHeartbeats 4000000 in
theorem w_term_Pool_cut (p1 : Option Addr) (n1 : Int) (w : World) (K : World → Prop) (h : m_term_Pool_cut p1 n1 w K) :
    Calls Try.prog 118 #[(.pointer p1), (.int .i64 n1)] w (fun e w' => e = .returned (.tuple #[]) ∧ K  w') := by
  unfold m_term_Pool_cut at h
  refine calls_of_wpE (args := [(.pointer p1), (.int .i64 n1)]) Try.func118 rfl Try.ntmps118 (Nat.le_of_ble_eq_true rfl) ?_
  refine wpE_seq ?_
  refine wpE_seq ?_
  refine rg ?_
  refine q0 (.pointer p1) ?_
  obtain ⟨a1, hp1, h⟩ := h
  refine q2 (.pointer (some a1)) (x_nilCheck (p := p1) (by kernel_rfl) hp1) ?_
  refine q0 (.pointer (some a1)) ?_
  obtain ⟨v1, hv9, h⟩ := h
  refine q2 v1.v (x_load (a := a1) (by kernel_rfl) (Try.isAgg180 _) hv9) ?_
  refine q0 (.int .i64 n1) ?_
  obtain ⟨s1, hv8, h⟩ := h
  refine q2 s1.v (x_slice (by kernel_rfl) (by kernel_rfl) (by kernel_rfl) (by kernel_rfl) hv8) ?_
  refine q0 (.int .i64 (s1.len : Int)) ?_
  refine q0 (.int .i64 0) ?_
  refine wpL_nil ?_
  refine th_n ?_
  refine wpE_block ?_
  obtain ⟨I1, mu1, h0, hr⟩ := h
  refine wpE_loop (σ := Int × World) (fun s ρ w => w = s.2 ∧ Has ρ [(0, (.pointer p1)), (1, (.int .i64 n1)), (11, s1.v), (12, (.int .i64 (s1.len : Int))), (13, (.int .i64 s.1))] ∧ I1 s.1 s.2) (fun s => mu1 s.1 s.2) (0, w) ⟨rfl, Has.mk (by kernel_rfl), h0⟩ ?_
  rintro ⟨x1, wl1⟩ ρ w ⟨hw, hH, hI⟩
  obtain rfl : wl1 = w := (show w = wl1 from hw).symm
  replace hH : Has ρ [(0, (.pointer p1)), (1, (.int .i64 n1)), (11, s1.v), (12, (.int .i64 (s1.len : Int))), (13, (.int .i64 x1))] := hH
  have h := hr x1 wl1 hI
  clear hr h0
  unfold m_term_Pool_cut_l1 at h
  refine wpE_has hH ?_
  clear hH hI
  refine wpE_seq ?_
  refine rg ?_
  refine q0 (.bool (decide (x1 < (s1.len : Int)))) ?_
  refine wpL_nil ?_
  refine th_n ?_
  refine wpE_seq ?_
  refine wpE_cond (t := (decide (x1 < (s1.len : Int)))) (by kernel_rfl) (fun hc1 => ?_) (fun hc1 => ?_)
  · replace h := h.1 hc1
    refine wpE_skip ?_
    refine th_n ?_
    refine wpE_seq ?_
    refine wpE_block ?_
    refine wpE_seq ?_
    refine rg ?_
    obtain ⟨a2, hv5, h⟩ := h
    refine q2 (.pointer (some a2)) (x_indexAddr (s := s1) (k := .i64) (i := x1) (by kernel_rfl) (by kernel_rfl) (Try.runUnderlying180 _) (Try.sizeOf213 _) hv5) ?_
    obtain ⟨vnodeKind1, vnodeFrom1, vnodeTo1, vnodeNum1, vnodeText1, vnodeA1, vnodeB1, vsize1, vdepth1, hv4, h⟩ := h
    refine q2 (.agg #[(.int .i64 vnodeKind1), (.int .i64 vnodeFrom1), (.int .i64 vnodeTo1), (.int .u64 vnodeNum1), (.string vnodeText1), (.int .i64 vnodeA1), (.int .i64 vnodeB1), (.int .i64 vsize1), (.int .i64 vdepth1)]) (x_loadA (a := a2) (vs := [(.int .i64 vnodeKind1), (.int .i64 vnodeFrom1), (.int .i64 vnodeTo1), (.int .u64 vnodeNum1), (.string vnodeText1), (.int .i64 vnodeA1), (.int .i64 vnodeB1), (.int .i64 vsize1), (.int .i64 vdepth1)]) (by kernel_rfl) (Try.isAgg213 _) (Try.sizeOf213 _) rfl hv4) ?_
    refine st_new (O := (.cells #[(.int .i64 0), (.int .i64 0), (.int .i64 0), (.int .u64 0), (.string (⟨#[]⟩ : ByteArray)), (.int .i64 0), (.int .i64 0), (.int .i64 0), (.int .i64 0)] 213)) (fun p => .pointer (some p)) (want0 rfl) (x_alloc (Try.zeroValue213 _) rfl) ?_
    intro p2 w1 hn2
    replace h := h p2 w1 hn2
    obtain ⟨hp2, h⟩ := h
    refine st_set (want0 rfl) (x_storeA (a := p2) (vs := [(.int .i64 vnodeKind1), (.int .i64 vnodeFrom1), (.int .i64 vnodeTo1), (.int .u64 vnodeNum1), (.string vnodeText1), (.int .i64 vnodeA1), (.int .i64 vnodeB1), (.int .i64 vsize1), (.int .i64 vdepth1)]) (by kernel_rfl) (by kernel_rfl) rfl (Try.sizeOf213 _) rfl hp2) ?_
    intro w2 hn1
    replace h := h w2 hn1
    refine wpL_nil ?_
    refine th_n ?_
    obtain ⟨C1, hC, h⟩ := h
    refine wpE_drawnC C1 [6] [6] (by kernel_rfl) (by kernel_rfl) (by kernel_rfl) (by kernel_rfl) hC ?_
    clear hC
    intro w3 hw3
    replace h := h w3 hw3
    refine qx 0 (.pointer p1) Kp0 ?_
    refine qgo (k := 1) (by kernel_rfl) ?_
    obtain ⟨a3, hp3, h⟩ := h
    refine sx (v := (.pointer (some a3))) Kp1 (want0 rfl) (by kernel_rfl) (fun w' hw' => (x_nilCheck (p := p1) (by kernel_rfl) hp3)) ?_
    refine qx 2 (.pointer (some (a3.add 1))) Kp2 ?_
    refine qgo (k := 3) (by kernel_rfl) ?_
    obtain ⟨v2, hv3, h⟩ := h
    refine sx (v := (.map v2)) Kp3 (want0 rfl) (by kernel_rfl) (fun w' hw' => (x_load (a := (a3.add 1)) (by kernel_rfl) (Try.isAgg181 _) (hv3 w' hw'))) ?_
    refine qx 4 (.pointer (some p2)) Kp4 ?_
    refine qgo (k := 5) (by kernel_rfl) ?_
    obtain ⟨vKind1, vFrom1, vTo1, vNum1, vText1, vA1, vB1, hv2, h⟩ := h
    refine sx (v := (.agg #[(.int .i64 vKind1), (.int .i64 vFrom1), (.int .i64 vTo1), (.int .u64 vNum1), (.string vText1), (.int .i64 vA1), (.int .i64 vB1)])) Kp5 (want0 rfl) (by kernel_rfl) (fun w' hw' => (x_loadA (a := p2) (vs := [(.int .i64 vKind1), (.int .i64 vFrom1), (.int .i64 vTo1), (.int .u64 vNum1), (.string vText1), (.int .i64 vA1), (.int .i64 vB1)]) (by kernel_rfl) (Try.isAgg93 _) (Try.sizeOf93 _) rfl (hv2 w' hw'))) ?_
    refine lgo (k := 6) (by kernel_rfl) ?_
    obtain ⟨w4, hv1, h⟩ := h
    refine sl (v := (.tuple #[])) Kp6 (want0 rfl) (by kernel_rfl) (x_builtin (args := #[(.map v2), (.agg #[(.int .i64 vKind1), (.int .i64 vFrom1), (.int .i64 vTo1), (.int .u64 vNum1), (.string vText1), (.int .i64 vA1), (.int .i64 vB1)])]) (by kernel_rfl) (fun _ => rfl) hv1) (.inl (by kernel_rfl)) ?_
    refine wpX_nil (by kernel_rfl) ?_
    refine bl_n ?_
    refine th_n ?_
    refine rg ?_
    refine q0 (.int .i64 (IntKind.i64.wrap (x1 + 1))) ?_
    refine q0 (.int .i64 (IntKind.i64.wrap (x1 + 1))) ?_
    refine wpL_nil ?_
    refine th_n ?_
    exact ⟨((IntKind.i64.wrap (x1 + 1)), w4), ⟨rfl, Has.mk (by kernel_rfl), h.1⟩, h.2⟩
  · replace h := h.2 hc1
    refine wpE_exit ?_
    refine th_x ?_
    refine th_x ?_
    refine bl_eq ?_
    refine th_n ?_
    refine rg ?_
    refine q0 (.pointer p1) ?_
    refine q0 (.pointer p1) ?_
    obtain ⟨a4, hp4, h⟩ := h
    refine q2 (.pointer (some a4)) (x_nilCheck (p := p1) (by kernel_rfl) hp4) ?_
    refine q0 (.pointer (some a4)) ?_
    obtain ⟨v3, hv7, h⟩ := h
    refine q2 v3.v (x_load (a := a4) (by kernel_rfl) (Try.isAgg180 _) hv7) ?_
    refine q0 (.int .i64 n1) ?_
    obtain ⟨s2, hv6, h⟩ := h
    refine q2 s2.v (x_slice (by kernel_rfl) (by kernel_rfl) (by kernel_rfl) (by kernel_rfl) hv6) ?_
    obtain ⟨a5, hp5, h⟩ := h
    refine q2 (.pointer (some a5)) (x_nilCheck (p := p1) (by kernel_rfl) hp5) ?_
    refine q0 (.pointer (some a5)) ?_
    obtain ⟨hp6, h⟩ := h
    refine st_set (want0 rfl) (x_store (a := a5) (v := s2.v) (by kernel_rfl) (by kernel_rfl) rfl (Try.sizeOf180 _) hp6) ?_
    intro w5 hn3
    replace h := h w5 hn3
    refine wpL_nil ?_
    refine res0 (.inr rfl) Try.results118 ?_
    exact ⟨rfl, h⟩

def m_term_Pool_Make (p1 : Option Addr) (nKind1 : Int) (nFrom1 : Int) (nTo1 : Int) (nNum1 : Int) (nText1 : ByteArray) (nA1 : Int) (nB1 : Int) (w : World) (K : Int → Int → World → Prop) : Prop :=
  ∀ (p2 : Addr) (w1 : World), New w (.cells #[(.int .i64 nKind1), (.int .i64 nFrom1), (.int .i64 nTo1), (.int .u64 nNum1), (.string nText1), (.int .i64 nA1), (.int .i64 nB1)] 93) p2 w1 →
  Br (Option.isNone p1)
    (K 0 0 w1)
    (∃ vKind1 : Int, ∃ vFrom1 : Int, ∃ vTo1 : Int, ∃ vNum1 : Int, ∃ vText1 : ByteArray, ∃ vA1 : Int, ∃ vB1 : Int, Row w1 p2 [(.int .i64 vKind1), (.int .i64 vFrom1), (.int .i64 vTo1), (.int .u64 vNum1), (.string vText1), (.int .i64 vA1), (.int .i64 vB1)] ∧
    Calls Try.prog 169 #[(.pointer p1), (.agg #[(.int .i64 vKind1), (.int .i64 vFrom1), (.int .i64 vTo1), (.int .u64 vNum1), (.string vText1), (.int .i64 vA1), (.int .i64 vB1)])] w1 (fun e w2 => ∃ r1 : Int, ∃ r2 : Int, ∃ r3 : Int, e = .returned (.tuple #[(.int .i64 r1), (.int .i64 r2), (.int .i64 r3)]) ∧ 
      Br ((r3 : Int) != 0)
        (K 0 r3 w2)
        (∀ w3, w3 = w2.drew →
        ∃ a1 : Addr, p1 = some a1 ∧
        ∃ v1 : Option Nat, w3.cell? (a1.add 1) = some (.map v1) ∧
        ∃ vKind2 : Int, ∃ vFrom2 : Int, ∃ vTo2 : Int, ∃ vNum2 : Int, ∃ vText2 : ByteArray, ∃ vA2 : Int, ∃ vB2 : Int, Row w3 p2 [(.int .i64 vKind2), (.int .i64 vFrom2), (.int .i64 vTo2), (.int .u64 vNum2), (.string vText2), (.int .i64 vA2), (.int .i64 vB2)] ∧
        ∃ v2 : Int, ∃ ok1 : Bool, (Instr.lookup 181 (.map v1) (.agg #[(.int .i64 vKind2), (.int .i64 vFrom2), (.int .i64 vTo2), (.int .u64 vNum2), (.string vText2), (.int .i64 vA2), (.int .i64 vB2)]) true).run Try.prog w3 = .ok (.tuple #[(.int .i64 v2), (.bool ok1)]) w3 ∧
        Br ok1
          (K v2 0 w3)
          (∃ a2 : Addr, p1 = some a2 ∧
          ∃ v3 : Sl, w3.cell? a2 = some v3.v ∧
          Br (decide ((v3.len : Int) ≥ 65536))
            (K 0 6 w3)
            (∃ C1 : World → Prop, C1 w3.drew ∧ ∀ w4, w4 = w3.drew →
            ∃ a3 : Addr, p1 = some a3 ∧
            ∃ v4 : Sl, (∀ w', C1 w' → w'.cell? a3 = some v4.v) ∧
            ∃ vKind3 : Int, ∃ vFrom3 : Int, ∃ vTo3 : Int, ∃ vNum3 : Int, ∃ vText3 : ByteArray, ∃ vA3 : Int, ∃ vB3 : Int, (∀ w', C1 w' → Row w' p2 [(.int .i64 vKind3), (.int .i64 vFrom3), (.int .i64 vTo3), (.int .u64 vNum3), (.string vText3), (.int .i64 vA3), (.int .i64 vB3)]) ∧
            ∀ (p3 : Addr) (w5 : World), New w4 (.cells #[(.int .i64 vKind3), (.int .i64 vFrom3), (.int .i64 vTo3), (.int .u64 vNum3), (.string vText3), (.int .i64 vA3), (.int .i64 vB3), (.int .i64 r1), (.int .i64 r2)] 213) p3 w5 → C1 w5 ∧
            ∃ s1 : Sl, ∃ w6 : World, (Builtin.append_ #[180, 180] 180 #[v4.v, (Sl.mk (some p3) 1 1).v]).run Try.prog w5 = .ok s1.v w6 ∧ C1 w6 ∧
            ∃ a4 : Addr, p1 = some a4 ∧
            CanW w6 a4 ∧ ∀ w7 : World, w7 = w6.setCell a4 s1.v →
            ∃ a5 : Addr, p1 = some a5 ∧
            ∃ v5 : Sl, w7.cell? a5 = some v5.v ∧
            ∃ C2 : World → Prop, C2 w7.drew ∧ ∀ w8, w8 = w7.drew →
            ∃ a6 : Addr, p1 = some a6 ∧
            ∃ v6 : Option Nat, (∀ w', C2 w' → w'.cell? (a6.add 1) = some (.map v6)) ∧
            ∃ vKind4 : Int, ∃ vFrom4 : Int, ∃ vTo4 : Int, ∃ vNum4 : Int, ∃ vText4 : ByteArray, ∃ vA4 : Int, ∃ vB4 : Int, (∀ w', C2 w' → Row w' p2 [(.int .i64 vKind4), (.int .i64 vFrom4), (.int .i64 vTo4), (.int .u64 vNum4), (.string vText4), (.int .i64 vA4), (.int .i64 vB4)]) ∧
            ∃ w9 : World, (Instr.mapUpdate 181 (.map v6) (.agg #[(.int .i64 vKind4), (.int .i64 vFrom4), (.int .i64 vTo4), (.int .u64 vNum4), (.string vText4), (.int .i64 vA4), (.int .i64 vB4)]) (.int .i64 (v5.len : Int))).run Try.prog w8 = .ok () w9 ∧
            K (v5.len : Int) 0 w9)))))
set_option maxRecDepth 100000 in
set_option maxHeartbeats 4000000 in
theorem w_term_Pool_Make (p1 : Option Addr) (nKind1 : Int) (nFrom1 : Int) (nTo1 : Int) (nNum1 : Int) (nText1 : ByteArray) (nA1 : Int) (nB1 : Int) (w : World) (K : Int → Int → World → Prop) (h : m_term_Pool_Make p1 nKind1 nFrom1 nTo1 nNum1 nText1 nA1 nB1 w K) :
    Calls Try.prog 134 #[(.pointer p1), (.agg #[(.int .i64 nKind1), (.int .i64 nFrom1), (.int .i64 nTo1), (.int .u64 nNum1), (.string nText1), (.int .i64 nA1), (.int .i64 nB1)])] w (fun e w' => ∃ r4 : Int, ∃ r5 : Int, e = .returned (.tuple #[(.int .i64 r4), (.int .i64 r5)]) ∧ K r4 r5 w') := by
  unfold m_term_Pool_Make at h
  refine calls_of_wpE (args := [(.pointer p1), (.agg #[(.int .i64 nKind1), (.int .i64 nFrom1), (.int .i64 nTo1), (.int .u64 nNum1), (.string nText1), (.int .i64 nA1), (.int .i64 nB1)])]) Try.func134 rfl Try.ntmps134 (Nat.le_of_ble_eq_true rfl) ?_
  refine wpE_seq ?_
  refine rg ?_
  refine st_new (O := (.cells #[(.int .i64 nKind1), (.int .i64 nFrom1), (.int .i64 nTo1), (.int .u64 nNum1), (.string nText1), (.int .i64 nA1), (.int .i64 nB1)] 93)) (fun p => .pointer (some p)) (want0 rfl) (x_box (cs := #[(.int .i64 nKind1), (.int .i64 nFrom1), (.int .i64 nTo1), (.int .u64 nNum1), (.string nText1), (.int .i64 nA1), (.int .i64 nB1)]) (by kernel_rfl)) ?_
  intro p2 w1 hn3
  replace h := h p2 w1 hn3
  refine q0 (.int .i64 0) ?_
  refine q0 (.int .i64 0) ?_
  refine wpL_nil ?_
  refine th_n ?_
  refine wpE_seq ?_
  refine wpE_seq ?_
  refine rg ?_
  refine q0 (.pointer p1) ?_
  refine q2 (.bool (Option.isNone p1)) (x_ptreq (by kernel_rfl) rfl Try.underlying25) ?_
  refine wpL_nil ?_
  refine th_n ?_
  refine wpE_cond (t := (Option.isNone p1)) (by kernel_rfl) (fun hc1 => ?_) (fun hc1 => ?_)
  · replace h := h.1 hc1
    refine wpE_seq ?_
    refine rg ?_
    refine q0 (.int .i64 0) ?_
    refine q0 (.int .i64 0) ?_
    refine wpL_nil ?_
    refine th_n ?_
    refine wpE_ret ?_
    refine th_r ?_
    refine res2 (.inl rfl) Try.results134 (v := (.int .i64 0)) (by kernel_rfl) (v' := (.int .i64 0)) (by kernel_rfl) ?_
    exact ⟨0, 0, rfl, h⟩
  · replace h := h.2 hc1
    refine wpE_skip ?_
    refine th_n ?_
    refine wpE_seq ?_
    refine rg ?_
    refine q0 (.pointer p1) ?_
    obtain ⟨vKind1, vFrom1, vTo1, vNum1, vText1, vA1, vB1, hv12, h⟩ := h
    refine q2 (.agg #[(.int .i64 vKind1), (.int .i64 vFrom1), (.int .i64 vTo1), (.int .u64 vNum1), (.string vText1), (.int .i64 vA1), (.int .i64 vB1)]) (x_loadA (a := p2) (vs := [(.int .i64 vKind1), (.int .i64 vFrom1), (.int .i64 vTo1), (.int .u64 vNum1), (.string vText1), (.int .i64 vA1), (.int .i64 vB1)]) (by kernel_rfl) (Try.isAgg93 _) (Try.sizeOf93 _) rfl hv12) ?_
    refine st_call (want0 rfl) (x_callE (args := #[(.pointer p1), (.agg #[(.int .i64 vKind1), (.int .i64 vFrom1), (.int .i64 vTo1), (.int .u64 vNum1), (.string vText1), (.int .i64 vA1), (.int .i64 vB1)])]) Try.call169 (by kernel_rfl)) (h.mono ?_)
    clear h
    rintro e w2 ⟨r1, r2, r3, rfl, h⟩
    refine ⟨_, rfl, ?_⟩
    refine q0 (.tuple #[(.int .i64 r1), (.int .i64 r2), (.int .i64 r3)]) ?_
    refine q0 (.int .i64 r1) ?_
    refine q0 (.int .i64 r2) ?_
    refine q0 (.int .i64 r3) ?_
    refine q0 (.int .i64 r1) ?_
    refine q0 (.int .i64 r2) ?_
    refine q0 (.int .i64 r3) ?_
    refine wpL_nil ?_
    refine th_n ?_
    refine wpE_seq ?_
    refine wpE_seq ?_
    refine rg ?_
    refine q0 (.int .i64 r3) ?_
    refine q0 (.bool ((r3 : Int) != 0)) ?_
    refine wpL_nil ?_
    refine th_n ?_
    refine wpE_cond (t := ((r3 : Int) != 0)) (by kernel_rfl) (fun hc2 => ?_) (fun hc2 => ?_)
    · replace h := h.1 hc2
      refine wpE_seq ?_
      refine rg ?_
      refine q0 (.int .i64 r3) ?_
      refine q0 (.int .i64 0) ?_
      refine q0 (.int .i64 r3) ?_
      refine wpL_nil ?_
      refine th_n ?_
      refine wpE_ret ?_
      refine th_r ?_
      refine res2 (.inl rfl) Try.results134 (v := (.int .i64 0)) (by kernel_rfl) (v' := (.int .i64 r3)) (by kernel_rfl) ?_
      exact ⟨0, r3, rfl, h⟩
    · replace h := h.2 hc2
      refine wpE_skip ?_
      refine th_n ?_
      refine wpE_seq ?_
      refine wpE_seq ?_
      refine wpE_drawnQ (by kernel_rfl) (by kernel_rfl) (by kernel_rfl) (by kernel_rfl) ?_
      intro w3 hw3
      replace h := h w3 hw3
      refine qq 0 (.pointer p1) Kp0 ?_
      refine qgo (k := 1) (by kernel_rfl) ?_
      obtain ⟨a1, hp1, h⟩ := h
      refine sxQ (v := (.pointer (some a1))) Kp1 (want0 rfl) rfl (x_nilCheck (p := p1) (by kernel_rfl) hp1) ?_
      refine qq 2 (.pointer (some (a1.add 1))) Kp2 ?_
      refine qgo (k := 3) (by kernel_rfl) ?_
      obtain ⟨v1, hv11, h⟩ := h
      refine sxQ (v := (.map v1)) Kp3 (want0 rfl) rfl (x_load (a := (a1.add 1)) (by kernel_rfl) (Try.isAgg181 _) hv11) ?_
      refine qgo (k := 4) (by kernel_rfl) ?_
      obtain ⟨vKind2, vFrom2, vTo2, vNum2, vText2, vA2, vB2, hv10, h⟩ := h
      refine sxQ (v := (.agg #[(.int .i64 vKind2), (.int .i64 vFrom2), (.int .i64 vTo2), (.int .u64 vNum2), (.string vText2), (.int .i64 vA2), (.int .i64 vB2)])) Kp4 (want0 rfl) rfl (x_loadA (a := p2) (vs := [(.int .i64 vKind2), (.int .i64 vFrom2), (.int .i64 vTo2), (.int .u64 vNum2), (.string vText2), (.int .i64 vA2), (.int .i64 vB2)]) (by kernel_rfl) (Try.isAgg93 _) (Try.sizeOf93 _) rfl hv10) ?_
      refine qgo (k := 5) (by kernel_rfl) ?_
      obtain ⟨v2, ok1, hv9, h⟩ := h
      refine sxQ (v := (.tuple #[(.int .i64 v2), (.bool ok1)])) Kp5 (want0 rfl) rfl (x_lookup (by kernel_rfl) (by kernel_rfl) hv9) ?_
      refine qq 6 (.tuple #[(.int .i64 v2), (.bool ok1)]) Kp6 ?_
      refine qq 7 (.int .i64 v2) Kp7 ?_
      refine qq 8 (.bool ok1) Kp8 ?_
      refine qq 9 (.int .i64 v2) Kp9 ?_
      refine qq 10 (.bool ok1) (pickA (pickS (pickS (pickS (pickS (pickS (pickS (pickS (pickS (pickS (pickS pickZ))))))))))) ?_
      refine wpX_nil (by kernel_rfl) ?_
      refine th_n ?_
      refine wpE_seq ?_
      refine rg ?_
      refine q0 (.bool ok1) ?_
      refine wpL_nil ?_
      refine th_n ?_
      refine wpE_cond (t := ok1) (by kernel_rfl) (fun hc3 => ?_) (fun hc3 => ?_)
      · replace h := h.1 hc3
        refine wpE_seq ?_
        refine rg ?_
        refine q0 (.int .i64 v2) ?_
        refine q0 (.int .i64 v2) ?_
        refine q0 (.int .i64 0) ?_
        refine wpL_nil ?_
        refine th_n ?_
        refine wpE_ret ?_
        refine th_r ?_
        refine res2 (.inl rfl) Try.results134 (v := (.int .i64 v2)) (by kernel_rfl) (v' := (.int .i64 0)) (by kernel_rfl) ?_
        exact ⟨v2, 0, rfl, h⟩
      · replace h := h.2 hc3
        refine wpE_skip ?_
        refine th_n ?_
        refine wpE_seq ?_
        refine wpE_seq ?_
        refine rg ?_
        refine q0 (.pointer p1) ?_
        obtain ⟨a2, hp2, h⟩ := h
        refine q2 (.pointer (some a2)) (x_nilCheck (p := p1) (by kernel_rfl) hp2) ?_
        refine q0 (.pointer (some a2)) ?_
        obtain ⟨v3, hv8, h⟩ := h
        refine q2 v3.v (x_load (a := a2) (by kernel_rfl) (Try.isAgg180 _) hv8) ?_
        refine q0 (.int .i64 (v3.len : Int)) ?_
        refine q0 (.bool (decide ((v3.len : Int) ≥ 65536))) ?_
        refine wpL_nil ?_
        refine th_n ?_
        refine wpE_cond (t := (decide ((v3.len : Int) ≥ 65536))) (by kernel_rfl) (fun hc4 => ?_) (fun hc4 => ?_)
        · replace h := h.1 hc4
          refine wpE_seq ?_
          refine rg ?_
          refine q0 (.int .i64 0) ?_
          refine q0 (.int .i64 6) ?_
          refine wpL_nil ?_
          refine th_n ?_
          refine wpE_ret ?_
          refine th_r ?_
          refine res2 (.inl rfl) Try.results134 (v := (.int .i64 0)) (by kernel_rfl) (v' := (.int .i64 6)) (by kernel_rfl) ?_
          exact ⟨0, 6, rfl, h⟩
        · replace h := h.2 hc4
          refine wpE_skip ?_
          refine th_n ?_
          refine wpE_seq ?_
          obtain ⟨C1, hC, h⟩ := h
          refine wpE_drawnC C1 [9, 10, 13] [13] (by kernel_rfl) (by kernel_rfl) (by kernel_rfl) (by kernel_rfl) hC ?_
          clear hC
          intro w4 hw4
          replace h := h w4 hw4
          refine qx 0 (.pointer p1) Kp0 ?_
          refine qx 1 (.pointer p1) Kp1 ?_
          refine qgo (k := 2) (by kernel_rfl) ?_
          obtain ⟨a3, hp3, h⟩ := h
          refine sx (v := (.pointer (some a3))) Kp2 (want0 rfl) (by kernel_rfl) (fun w' hw' => (x_nilCheck (p := p1) (by kernel_rfl) hp3)) ?_
          refine qx 3 (.pointer (some a3)) Kp3 ?_
          refine qgo (k := 4) (by kernel_rfl) ?_
          obtain ⟨v4, hv7, h⟩ := h
          refine sx (v := v4.v) Kp4 (want0 rfl) (by kernel_rfl) (fun w' hw' => (x_load (a := a3) (by kernel_rfl) (Try.isAgg180 _) (hv7 w' hw'))) ?_
          refine qgo (k := 5) (by kernel_rfl) ?_
          obtain ⟨vKind3, vFrom3, vTo3, vNum3, vText3, vA3, vB3, hv6, h⟩ := h
          refine sx (v := (.agg #[(.int .i64 vKind3), (.int .i64 vFrom3), (.int .i64 vTo3), (.int .u64 vNum3), (.string vText3), (.int .i64 vA3), (.int .i64 vB3)])) Kp5 (want0 rfl) (by kernel_rfl) (fun w' hw' => (x_loadA (a := p2) (vs := [(.int .i64 vKind3), (.int .i64 vFrom3), (.int .i64 vTo3), (.int .u64 vNum3), (.string vText3), (.int .i64 vA3), (.int .i64 vB3)]) (by kernel_rfl) (Try.isAgg93 _) (Try.sizeOf93 _) rfl (hv6 w' hw'))) ?_
          refine qx 6 (.int .i64 r1) Kp6 ?_
          refine qx 7 (.int .i64 r2) Kp7 ?_
          refine qx 8 (.agg #[(.int .i64 vKind3), (.int .i64 vFrom3), (.int .i64 vTo3), (.int .u64 vNum3), (.string vText3), (.int .i64 vA3), (.int .i64 vB3), (.int .i64 r1), (.int .i64 r2)]) Kp8 ?_
          refine lgo (k := 9) (by kernel_rfl) ?_
          refine sl_new (O := (.cells #[(.int .i64 vKind3), (.int .i64 vFrom3), (.int .i64 vTo3), (.int .u64 vNum3), (.string vText3), (.int .i64 vA3), (.int .i64 vB3), (.int .i64 r1), (.int .i64 r2)] 213)) (fun p => (Sl.mk (some p) 1 1).v) Kp9 (want0 rfl) (by kernel_rfl) (x_buildSlice (vs := #[(0, (.agg #[(.int .i64 vKind3), (.int .i64 vFrom3), (.int .i64 vTo3), (.int .u64 vNum3), (.string vText3), (.int .i64 vA3), (.int .i64 vB3), (.int .i64 r1), (.int .i64 r2)]))]) (by kernel_rfl) (by kernel_rfl)) ?_
          intro p3 w5 hn2
          replace h := h p3 w5 hn2
          refine ⟨.inr h.1, ?_⟩
          replace h := h.2
          refine lgo (k := 10) (by kernel_rfl) ?_
          obtain ⟨s1, w6, hv5, hC, h⟩ := h
          refine sl (v := s1.v) (pickA (pickS (pickS (pickS (pickS (pickS (pickS (pickS (pickS (pickS (pickS pickZ))))))))))) (want0 rfl) (by kernel_rfl) (x_builtin (args := #[v4.v, (Sl.mk (some p3) 1 1).v]) (by kernel_rfl) (fun _ => rfl) hv5) (.inr hC) ?_
          clear hC
          refine qgo (k := 11) (by kernel_rfl) ?_
          obtain ⟨a4, hp4, h⟩ := h
          refine sx (v := (.pointer (some a4))) (pickA (pickS (pickS (pickS (pickS (pickS (pickS (pickS (pickS (pickS (pickS (pickS pickZ)))))))))))) (want0 rfl) (by kernel_rfl) (fun w' hw' => (x_nilCheck (p := p1) (by kernel_rfl) hp4)) ?_
          refine qx 12 (.pointer (some a4)) (pickA (pickS (pickS (pickS (pickS (pickS (pickS (pickS (pickS (pickS (pickS (pickS (pickS pickZ))))))))))))) ?_
          refine lgo (k := 13) (by kernel_rfl) ?_
          obtain ⟨hp5, h⟩ := h
          refine sl_set (pickA (pickS (pickS (pickS (pickS (pickS (pickS (pickS (pickS (pickS (pickS (pickS (pickS (pickS pickZ)))))))))))))) (want0 rfl) (by kernel_rfl) (x_store (a := a4) (v := s1.v) (by kernel_rfl) (by kernel_rfl) rfl (Try.sizeOf180 _) hp5) ?_
          intro w7 hn1
          replace h := h w7 hn1
          refine ⟨.inl (by kernel_rfl), ?_⟩
          refine wpX_nil (by kernel_rfl) ?_
          refine th_n ?_
          refine wpE_seq ?_
          refine rg ?_
          refine q0 (.pointer p1) ?_
          obtain ⟨a5, hp6, h⟩ := h
          refine q2 (.pointer (some a5)) (x_nilCheck (p := p1) (by kernel_rfl) hp6) ?_
          refine q0 (.pointer (some a5)) ?_
          obtain ⟨v5, hv4, h⟩ := h
          refine q2 v5.v (x_load (a := a5) (by kernel_rfl) (Try.isAgg180 _) hv4) ?_
          refine q0 (.int .i64 (v5.len : Int)) ?_
          refine q0 (.int .i64 (v5.len : Int)) ?_
          refine wpL_nil ?_
          refine th_n ?_
          refine wpE_seq ?_
          obtain ⟨C2, hC, h⟩ := h
          refine wpE_drawnC C2 [6] [6] (by kernel_rfl) (by kernel_rfl) (by kernel_rfl) (by kernel_rfl) hC ?_
          clear hC
          intro w8 hw8
          replace h := h w8 hw8
          refine qx 0 (.pointer p1) Kp0 ?_
          refine qgo (k := 1) (by kernel_rfl) ?_
          obtain ⟨a6, hp7, h⟩ := h
          refine sx (v := (.pointer (some a6))) Kp1 (want0 rfl) (by kernel_rfl) (fun w' hw' => (x_nilCheck (p := p1) (by kernel_rfl) hp7)) ?_
          refine qx 2 (.pointer (some (a6.add 1))) Kp2 ?_
          refine qgo (k := 3) (by kernel_rfl) ?_
          obtain ⟨v6, hv3, h⟩ := h
          refine sx (v := (.map v6)) Kp3 (want0 rfl) (by kernel_rfl) (fun w' hw' => (x_load (a := (a6.add 1)) (by kernel_rfl) (Try.isAgg181 _) (hv3 w' hw'))) ?_
          refine qgo (k := 4) (by kernel_rfl) ?_
          obtain ⟨vKind4, vFrom4, vTo4, vNum4, vText4, vA4, vB4, hv2, h⟩ := h
          refine sx (v := (.agg #[(.int .i64 vKind4), (.int .i64 vFrom4), (.int .i64 vTo4), (.int .u64 vNum4), (.string vText4), (.int .i64 vA4), (.int .i64 vB4)])) Kp4 (want0 rfl) (by kernel_rfl) (fun w' hw' => (x_loadA (a := p2) (vs := [(.int .i64 vKind4), (.int .i64 vFrom4), (.int .i64 vTo4), (.int .u64 vNum4), (.string vText4), (.int .i64 vA4), (.int .i64 vB4)]) (by kernel_rfl) (Try.isAgg93 _) (Try.sizeOf93 _) rfl (hv2 w' hw'))) ?_
          refine qx 5 (.int .i64 (v5.len : Int)) Kp5 ?_
          refine lgo (k := 6) (by kernel_rfl) ?_
          obtain ⟨w9, hv1, h⟩ := h
          refine sl_skip Kp6 (want0 rfl) (by kernel_rfl) (x_mapUpdate (by kernel_rfl) (by kernel_rfl) (by kernel_rfl) hv1) (.inl (by kernel_rfl)) ?_
          refine wpX_nil (by kernel_rfl) ?_
          refine th_n ?_
          refine wpE_seq ?_
          refine rg ?_
          refine q0 (.int .i64 (v5.len : Int)) ?_
          refine q0 (.int .i64 (v5.len : Int)) ?_
          refine q0 (.int .i64 0) ?_
          refine wpL_nil ?_
          refine th_n ?_
          refine wpE_ret ?_
          refine res2 (.inl rfl) Try.results134 (v := (.int .i64 (v5.len : Int))) (by kernel_rfl) (v' := (.int .i64 0)) (by kernel_rfl) ?_
          exact ⟨(v5.len : Int), 0, rfl, h⟩

def m_term_Pool_in_j1 (p1 : Option Addr) (t1 : Int) (x1 : Bool) (w : World) (K : Bool → World → Prop) : Prop :=
  Br x1
    (∃ a1 : Addr, p1 = some a1 ∧
    ∃ v1 : Sl, w.cell? a1 = some v1.v ∧
    K (decide (t1 ≤ (v1.len : Int))) w)
    (K false w)
def m_term_Pool_in (p1 : Option Addr) (t1 : Int) (w : World) (K : Bool → World → Prop) : Prop :=
  Br (!(Option.isNone p1))
    (m_term_Pool_in_j1 p1 t1 (decide (t1 ≥ 1)) w K)
    (m_term_Pool_in_j1 p1 t1 false w K)
set_option maxRecDepth 100000 in
set_option maxHeartbeats 4000000 in
theorem w_term_Pool_in (p1 : Option Addr) (t1 : Int) (w : World) (K : Bool → World → Prop) (h : m_term_Pool_in p1 t1 w K) :
    Calls Try.prog 136 #[(.pointer p1), (.int .i64 t1)] w (fun e w' => ∃ r1 : Bool, e = .returned (.bool r1) ∧ K r1 w') := by
  unfold m_term_Pool_in at h
  refine calls_of_wpE (args := [(.pointer p1), (.int .i64 t1)]) Try.func136 rfl Try.ntmps136 (Nat.le_of_ble_eq_true rfl) ?_
  refine wpE_seq ?_
  refine rg ?_
  refine q0 (.bool false) ?_
  refine wpL_nil ?_
  refine th_n ?_
  refine wpE_seq ?_
  refine rg ?_
  refine q0 (.pointer p1) ?_
  refine q2 (.bool (!(Option.isNone p1))) (x_ptrneq (by kernel_rfl) rfl Try.underlying25) ?_
  refine q0 (.bool (!(Option.isNone p1))) ?_
  refine wpL_join 3 (fun ρ w => ∃ x1 : Bool, Has ρ [(0, (.pointer p1)), (1, (.int .i64 t1)), (10, (.bool x1))] ∧ m_term_Pool_in_j1 p1 t1 x1 w K) ?_ ?_
  · rintro ρ w ⟨x1, hH, h⟩
    unfold m_term_Pool_in_j1 at h
    refine wpL_has hH ?_
    clear hH
    refine q0 (.bool x1) ?_
    rcases Bool.eq_false_or_eq_true x1 with hg1 | hg1
    · replace h := h.1 hg1
      refine q1 (.int .i64 t1) (want1 rfl (yD 11 hg1)) ?_
      refine q1 (.pointer p1) (want1 rfl (yD 11 hg1)) ?_
      obtain ⟨a1, hp1, h⟩ := h
      refine stp (v := (.pointer (some a1))) (want1 rfl (yD 11 hg1)) (x_nilCheck (p := p1) (by kernel_rfl) hp1) ?_
      refine q1 (.pointer (some a1)) (want1 rfl (yD 11 hg1)) ?_
      obtain ⟨v1, hv1, h⟩ := h
      refine stp (v := v1.v) (want1 rfl (yD 11 hg1)) (x_load (a := a1) (by kernel_rfl) (Try.isAgg180 _) hv1) ?_
      refine q1 (.int .i64 (v1.len : Int)) (want1 rfl (yD 11 hg1)) ?_
      refine q1 (.bool (decide (t1 ≤ (v1.len : Int)))) (want1 rfl (yD 11 hg1)) ?_
      refine q2 (.bool (decide (t1 ≤ (v1.len : Int)))) (x_pickT (b := x1) (by kernel_rfl) hg1 (by kernel_rfl)) ?_
      refine q0 (.bool (decide (t1 ≤ (v1.len : Int)))) ?_
      refine wpL_nil ?_
      refine th_n ?_
      refine wpE_ret ?_
      refine res1 (.inl rfl) Try.results136 (v := (.bool (decide (t1 ≤ (v1.len : Int))))) (by kernel_rfl) ?_
      exact ⟨(decide (t1 ≤ (v1.len : Int))), rfl, h⟩
    · replace h := h.2 hg1
      refine st_not (unwant rfl (yD 11 hg1) rfl) ?_
      refine st_not (unwant rfl (yD 11 hg1) rfl) ?_
      refine st_not (unwant rfl (yD 11 hg1) rfl) ?_
      refine st_not (unwant rfl (yD 11 hg1) rfl) ?_
      refine st_not (unwant rfl (yD 11 hg1) rfl) ?_
      refine st_not (unwant rfl (yD 11 hg1) rfl) ?_
      refine st_not (unwant rfl (yD 11 hg1) rfl) ?_
      refine q2 (.bool false) (x_pickF (b := x1) (by kernel_rfl) hg1 (by kernel_rfl)) ?_
      refine q0 (.bool false) ?_
      refine wpL_nil ?_
      refine th_n ?_
      refine wpE_ret ?_
      refine res1 (.inl rfl) Try.results136 (v := (.bool false)) (by kernel_rfl) ?_
      exact ⟨false, rfl, h⟩
  · skip
    rcases Bool.eq_false_or_eq_true (!(Option.isNone p1)) with hg2 | hg2
    · replace h := h.1 hg2
      refine q1 (.int .i64 t1) (want1 rfl (yD 7 hg2)) ?_
      refine q1 (.bool (decide (t1 ≥ 1))) (want1 rfl (yD 7 hg2)) ?_
      refine q2 (.bool (decide (t1 ≥ 1))) (x_pickT (b := (!(Option.isNone p1))) (by kernel_rfl) hg2 (by kernel_rfl)) ?_
      refine wpL_nil ?_
      exact ⟨(decide (t1 ≥ 1)), Has.mk (by kernel_rfl), h⟩
    · replace h := h.2 hg2
      refine st_not (unwant rfl (yD 7 hg2) rfl) ?_
      refine st_not (unwant rfl (yD 7 hg2) rfl) ?_
      refine q2 (.bool false) (x_pickF (b := (!(Option.isNone p1))) (by kernel_rfl) hg2 (by kernel_rfl)) ?_
      refine wpL_nil ?_
      exact ⟨false, Has.mk (by kernel_rfl), h⟩

def m_term_shapeOf (kind1 : Int) (w : World) (K : Bool → Bool → Bool → Bool → Int → Bool → World → Prop) : Prop :=
  ∀ (p1 : Addr) (w1 : World), New w (.cells #[(.bool false), (.bool false), (.bool false), (.bool false), (.int .i64 0)] 234) p1 w1 →
  Br (decide (kind1 < 1))
    ((∀ j, j < 5 → CanW w1 (p1.add j)) ∧ ∀ w2 : World, w2 = storeRow w1 p1 [(.bool false), (.bool false), (.bool false), (.bool false), (.int .i64 0)] →
    ∃ qfrom1 : Bool, ∃ qto1 : Bool, ∃ qnum1 : Bool, ∃ qtext1 : Bool, ∃ qkids1 : Int, Row w2 p1 [(.bool qfrom1), (.bool qto1), (.bool qnum1), (.bool qtext1), (.int .i64 qkids1)] ∧
    K qfrom1 qto1 qnum1 qtext1 qkids1 false w2)
    (Br (decide (kind1 > 9))
      ((∀ j, j < 5 → CanW w1 (p1.add j)) ∧ ∀ w3 : World, w3 = storeRow w1 p1 [(.bool false), (.bool false), (.bool false), (.bool false), (.int .i64 0)] →
      ∃ qfrom2 : Bool, ∃ qto2 : Bool, ∃ qnum2 : Bool, ∃ qtext2 : Bool, ∃ qkids2 : Int, Row w3 p1 [(.bool qfrom2), (.bool qto2), (.bool qnum2), (.bool qtext2), (.int .i64 qkids2)] ∧
      K qfrom2 qto2 qnum2 qtext2 qkids2 false w3)
      (Calls Try.prog 193 #[] w1 (fun e w4 => ∃ r1 : Array Value, e = .returned (.agg r1) ∧ 
        ∃ efrom1 : Bool, ∃ eto1 : Bool, ∃ enum1 : Bool, ∃ etext1 : Bool, ∃ ekids1 : Int, (Instr.index 278 (.agg r1) (.int .i64 kind1)).run Try.prog w4 = .ok (.agg #[(.bool efrom1), (.bool eto1), (.bool enum1), (.bool etext1), (.int .i64 ekids1)]) w4 ∧
        (∀ j, j < 5 → CanW w4 (p1.add j)) ∧ ∀ w5 : World, w5 = storeRow w4 p1 [(.bool efrom1), (.bool eto1), (.bool enum1), (.bool etext1), (.int .i64 ekids1)] →
        ∃ qfrom3 : Bool, ∃ qto3 : Bool, ∃ qnum3 : Bool, ∃ qtext3 : Bool, ∃ qkids3 : Int, Row w5 p1 [(.bool qfrom3), (.bool qto3), (.bool qnum3), (.bool qtext3), (.int .i64 qkids3)] ∧
        K qfrom3 qto3 qnum3 qtext3 qkids3 true w5)))
set_option maxRecDepth 100000 in
set_option maxHeartbeats 4000000 in
theorem w_term_shapeOf (kind1 : Int) (w : World) (K : Bool → Bool → Bool → Bool → Int → Bool → World → Prop) (h : m_term_shapeOf kind1 w K) :
    Calls Try.prog 148 #[(.int .i64 kind1)] w (fun e w' => ∃ rfrom1 : Bool, ∃ rto1 : Bool, ∃ rnum1 : Bool, ∃ rtext1 : Bool, ∃ rkids1 : Int, ∃ r2 : Bool, e = .returned (.tuple #[(.agg #[(.bool rfrom1), (.bool rto1), (.bool rnum1), (.bool rtext1), (.int .i64 rkids1)]), (.bool r2)]) ∧ K rfrom1 rto1 rnum1 rtext1 rkids1 r2 w') := by
  unfold m_term_shapeOf at h
  refine calls_of_wpE (args := [(.int .i64 kind1)]) Try.func148 rfl Try.ntmps148 (Nat.le_of_ble_eq_true rfl) ?_
  refine wpE_seq ?_
  refine rg ?_
  refine st_new (O := (.cells #[(.bool false), (.bool false), (.bool false), (.bool false), (.int .i64 0)] 234)) (fun p => .pointer (some p)) (want0 rfl) (x_alloc (Try.zeroValue234 _) rfl) ?_
  intro p1 w1 hn4
  replace h := h p1 w1 hn4
  refine q0 (.bool false) ?_
  refine wpL_nil ?_
  refine th_n ?_
  refine wpE_seq ?_
  refine wpE_seq ?_
  refine rg ?_
  refine q0 (.int .i64 kind1) ?_
  refine q0 (.bool (decide (kind1 < 1))) ?_
  refine q0 (.bool (decide (kind1 < 1))) ?_
  rcases Bool.eq_false_or_eq_true (decide (kind1 < 1)) with hg1 | hg1
  · replace h := h.1 hg1
    refine st_not (unwant rfl (yD 6 hg1) rfl) ?_
    refine st_not (unwant rfl (yD 6 hg1) rfl) ?_
    refine q2 (.bool true) (x_pickT (b := (decide (kind1 < 1))) (by kernel_rfl) hg1 (by kernel_rfl)) ?_
    refine wpL_nil ?_
    refine th_n ?_
    refine wpE_condT (by kernel_rfl) ?_
    refine wpE_seq ?_
    refine rg ?_
    refine q0 (.agg #[(.bool false), (.bool false), (.bool false), (.bool false), (.int .i64 0)]) ?_
    obtain ⟨hp1, h⟩ := h
    refine st_set (want0 rfl) (x_storeA (a := p1) (vs := [(.bool false), (.bool false), (.bool false), (.bool false), (.int .i64 0)]) (by kernel_rfl) (by kernel_rfl) rfl (Try.sizeOf234 _) rfl hp1) ?_
    intro w2 hn1
    replace h := h w2 hn1
    refine q0 (.bool false) ?_
    refine wpL_nil ?_
    refine th_n ?_
    refine wpE_ret ?_
    refine th_r ?_
    obtain ⟨qfrom1, qto1, qnum1, qtext1, qkids1, hv1, h⟩ := h
    refine resG (.inl rfl) (rs := [.cell 2 234, .tmp 3]) (vs := [(.agg #[(.bool qfrom1), (.bool qto1), (.bool qnum1), (.bool qtext1), (.int .i64 qkids1)]), (.bool false)]) (v := (.tuple #[(.agg #[(.bool qfrom1), (.bool qto1), (.bool qnum1), (.bool qtext1), (.int .i64 qkids1)]), (.bool false)])) Try.results148 ⟨(RV.cellA (A := p1) (vs := [(.bool qfrom1), (.bool qto1), (.bool qnum1), (.bool qtext1), (.int .i64 qkids1)]) (by kernel_rfl) (Try.isAgg234 _) (Try.sizeOf234 _) rfl hv1), (rvT (by kernel_rfl)), trivial⟩ (by kernel_rfl) ?_
    exact ⟨qfrom1, qto1, qnum1, qtext1, qkids1, false, rfl, h⟩
  · replace h := h.2 hg1
    refine q1 (.int .i64 kind1) (want1 rfl (yD 6 hg1)) ?_
    refine q1 (.bool (decide (kind1 > 9))) (want1 rfl (yD 6 hg1)) ?_
    refine q2 (.bool (decide (kind1 > 9))) (x_pickF (b := (decide (kind1 < 1))) (by kernel_rfl) hg1 (by kernel_rfl)) ?_
    refine wpL_nil ?_
    refine th_n ?_
    refine wpE_cond (t := (decide (kind1 > 9))) (by kernel_rfl) (fun hc1 => ?_) (fun hc1 => ?_)
    · replace h := h.1 hc1
      refine wpE_seq ?_
      refine rg ?_
      refine q0 (.agg #[(.bool false), (.bool false), (.bool false), (.bool false), (.int .i64 0)]) ?_
      obtain ⟨hp2, h⟩ := h
      refine st_set (want0 rfl) (x_storeA (a := p1) (vs := [(.bool false), (.bool false), (.bool false), (.bool false), (.int .i64 0)]) (by kernel_rfl) (by kernel_rfl) rfl (Try.sizeOf234 _) rfl hp2) ?_
      intro w3 hn2
      replace h := h w3 hn2
      refine q0 (.bool false) ?_
      refine wpL_nil ?_
      refine th_n ?_
      refine wpE_ret ?_
      refine th_r ?_
      obtain ⟨qfrom2, qto2, qnum2, qtext2, qkids2, hv2, h⟩ := h
      refine resG (.inl rfl) (rs := [.cell 2 234, .tmp 3]) (vs := [(.agg #[(.bool qfrom2), (.bool qto2), (.bool qnum2), (.bool qtext2), (.int .i64 qkids2)]), (.bool false)]) (v := (.tuple #[(.agg #[(.bool qfrom2), (.bool qto2), (.bool qnum2), (.bool qtext2), (.int .i64 qkids2)]), (.bool false)])) Try.results148 ⟨(RV.cellA (A := p1) (vs := [(.bool qfrom2), (.bool qto2), (.bool qnum2), (.bool qtext2), (.int .i64 qkids2)]) (by kernel_rfl) (Try.isAgg234 _) (Try.sizeOf234 _) rfl hv2), (rvT (by kernel_rfl)), trivial⟩ (by kernel_rfl) ?_
      exact ⟨qfrom2, qto2, qnum2, qtext2, qkids2, false, rfl, h⟩
    · replace h := h.2 hc1
      refine wpE_skip ?_
      refine th_n ?_
      refine wpE_seq ?_
      refine rg ?_
      refine st_call (want0 rfl) (x_callE (args := #[]) Try.call193 (by kernel_rfl)) (h.mono ?_)
      clear h
      rintro e w4 ⟨r1, rfl, h⟩
      refine ⟨_, rfl, ?_⟩
      refine q0 (.int .i64 kind1) ?_
      obtain ⟨efrom1, eto1, enum1, etext1, ekids1, hv4, h⟩ := h
      refine q2 (.agg #[(.bool efrom1), (.bool eto1), (.bool enum1), (.bool etext1), (.int .i64 ekids1)]) (x_index (by kernel_rfl) (by kernel_rfl) hv4) ?_
      obtain ⟨hp3, h⟩ := h
      refine st_set (want0 rfl) (x_storeA (a := p1) (vs := [(.bool efrom1), (.bool eto1), (.bool enum1), (.bool etext1), (.int .i64 ekids1)]) (by kernel_rfl) (by kernel_rfl) rfl (Try.sizeOf234 _) rfl hp3) ?_
      intro w5 hn3
      replace h := h w5 hn3
      refine q0 (.bool true) ?_
      refine wpL_nil ?_
      refine th_n ?_
      refine wpE_ret ?_
      obtain ⟨qfrom3, qto3, qnum3, qtext3, qkids3, hv3, h⟩ := h
      refine resG (.inl rfl) (rs := [.cell 2 234, .tmp 3]) (vs := [(.agg #[(.bool qfrom3), (.bool qto3), (.bool qnum3), (.bool qtext3), (.int .i64 qkids3)]), (.bool true)]) (v := (.tuple #[(.agg #[(.bool qfrom3), (.bool qto3), (.bool qnum3), (.bool qtext3), (.int .i64 qkids3)]), (.bool true)])) Try.results148 ⟨(RV.cellA (A := p1) (vs := [(.bool qfrom3), (.bool qto3), (.bool qnum3), (.bool qtext3), (.int .i64 qkids3)]) (by kernel_rfl) (Try.isAgg234 _) (Try.sizeOf234 _) rfl hv3), (rvT (by kernel_rfl)), trivial⟩ (by kernel_rfl) ?_
      exact ⟨qfrom3, qto3, qnum3, qtext3, qkids3, true, rfl, h⟩

def m_term_nodeOf (xKind1 : Int) (xFrom1 : Int) (xTo1 : Int) (xNum1 : Int) (xText1 : ByteArray) (xKids1 : Sl) (w : World) (K : Int → Int → Int → Int → ByteArray → Int → Int → World → Prop) : Prop :=
  ∀ (p1 : Addr) (w1 : World), New w (.cells #[(.int .i64 xKind1), (.int .i64 xFrom1), (.int .i64 xTo1), (.int .u64 xNum1), (.string xText1), xKids1.v] 116) p1 w1 →
  ∀ (p2 : Addr) (w2 : World), New w1 (.cells #[(.int .i64 0), (.int .i64 0), (.int .i64 0), (.int .u64 0), (.string (⟨#[]⟩ : ByteArray)), (.int .i64 0), (.int .i64 0)] 93) p2 w2 →
  ∃ v1 : Int, w2.cell? p1 = some (.int .i64 v1) ∧
  ∃ v2 : Int, w2.cell? (p1.add 1) = some (.int .i64 v2) ∧
  ∃ v3 : Int, w2.cell? (p1.add 2) = some (.int .i64 v3) ∧
  ∃ v4 : Int, w2.cell? (p1.add 3) = some (.int .u64 v4) ∧
  ∃ v5 : ByteArray, w2.cell? (p1.add 4) = some (.string v5) ∧
  (∀ j, j < 7 → CanW w2 (p2.add j)) ∧ ∀ w3 : World, w3 = storeRow w2 p2 [(.int .i64 v1), (.int .i64 v2), (.int .i64 v3), (.int .u64 v4), (.string v5), (.int .i64 0), (.int .i64 0)] →
  ∃ qKind1 : Int, ∃ qFrom1 : Int, ∃ qTo1 : Int, ∃ qNum1 : Int, ∃ qText1 : ByteArray, ∃ qA1 : Int, ∃ qB1 : Int, Row w3 p2 [(.int .i64 qKind1), (.int .i64 qFrom1), (.int .i64 qTo1), (.int .u64 qNum1), (.string qText1), (.int .i64 qA1), (.int .i64 qB1)] ∧
  K qKind1 qFrom1 qTo1 qNum1 qText1 qA1 qB1 w3
set_option maxRecDepth 100000 in
set_option maxHeartbeats 4000000 in
theorem w_term_nodeOf (xKind1 : Int) (xFrom1 : Int) (xTo1 : Int) (xNum1 : Int) (xText1 : ByteArray) (xKids1 : Sl) (w : World) (K : Int → Int → Int → Int → ByteArray → Int → Int → World → Prop) (h : m_term_nodeOf xKind1 xFrom1 xTo1 xNum1 xText1 xKids1 w K) :
    Calls Try.prog 156 #[(.agg #[(.int .i64 xKind1), (.int .i64 xFrom1), (.int .i64 xTo1), (.int .u64 xNum1), (.string xText1), xKids1.v])] w (fun e w' => ∃ rKind1 : Int, ∃ rFrom1 : Int, ∃ rTo1 : Int, ∃ rNum1 : Int, ∃ rText1 : ByteArray, ∃ rA1 : Int, ∃ rB1 : Int, e = .returned (.agg #[(.int .i64 rKind1), (.int .i64 rFrom1), (.int .i64 rTo1), (.int .u64 rNum1), (.string rText1), (.int .i64 rA1), (.int .i64 rB1)]) ∧ K rKind1 rFrom1 rTo1 rNum1 rText1 rA1 rB1 w') := by
  unfold m_term_nodeOf at h
  refine calls_of_wpE (args := [(.agg #[(.int .i64 xKind1), (.int .i64 xFrom1), (.int .i64 xTo1), (.int .u64 xNum1), (.string xText1), xKids1.v])]) Try.func156 rfl Try.ntmps156 (Nat.le_of_ble_eq_true rfl) ?_
  refine wpE_seq ?_
  refine rg ?_
  refine st_new (O := (.cells #[(.int .i64 xKind1), (.int .i64 xFrom1), (.int .i64 xTo1), (.int .u64 xNum1), (.string xText1), xKids1.v] 116)) (fun p => .pointer (some p)) (want0 rfl) (x_box (cs := #[(.int .i64 xKind1), (.int .i64 xFrom1), (.int .i64 xTo1), (.int .u64 xNum1), (.string xText1), xKids1.v]) (by kernel_rfl)) ?_
  intro p1 w1 hn3
  replace h := h p1 w1 hn3
  refine st_new (O := (.cells #[(.int .i64 0), (.int .i64 0), (.int .i64 0), (.int .u64 0), (.string (⟨#[]⟩ : ByteArray)), (.int .i64 0), (.int .i64 0)] 93)) (fun p => .pointer (some p)) (want0 rfl) (x_alloc (Try.zeroValue93 _) rfl) ?_
  intro p2 w2 hn2
  replace h := h p2 w2 hn2
  refine wpL_nil ?_
  refine th_n ?_
  refine wpE_seq ?_
  refine rg ?_
  refine q0 (.pointer (some p1)) ?_
  obtain ⟨v1, hv6, h⟩ := h
  refine q2 (.int .i64 v1) (x_load (a := p1) (by kernel_rfl) (Try.isAgg3 _) hv6) ?_
  refine q0 (.pointer (some (p1.add 1))) ?_
  obtain ⟨v2, hv5, h⟩ := h
  refine q2 (.int .i64 v2) (x_load (a := (p1.add 1)) (by kernel_rfl) (Try.isAgg3 _) hv5) ?_
  refine q0 (.pointer (some (p1.add 2))) ?_
  obtain ⟨v3, hv4, h⟩ := h
  refine q2 (.int .i64 v3) (x_load (a := (p1.add 2)) (by kernel_rfl) (Try.isAgg3 _) hv4) ?_
  refine q0 (.pointer (some (p1.add 3))) ?_
  obtain ⟨v4, hv3, h⟩ := h
  refine q2 (.int .u64 v4) (x_load (a := (p1.add 3)) (by kernel_rfl) (Try.isAgg38 _) hv3) ?_
  refine q0 (.pointer (some (p1.add 4))) ?_
  obtain ⟨v5, hv2, h⟩ := h
  refine q2 (.string v5) (x_load (a := (p1.add 4)) (by kernel_rfl) (Try.isAgg9 _) hv2) ?_
  refine q0 (.agg #[(.int .i64 v1), (.int .i64 v2), (.int .i64 v3), (.int .u64 v4), (.string v5), (.int .i64 0), (.int .i64 0)]) ?_
  obtain ⟨hp1, h⟩ := h
  refine st_set (want0 rfl) (x_storeA (a := p2) (vs := [(.int .i64 v1), (.int .i64 v2), (.int .i64 v3), (.int .u64 v4), (.string v5), (.int .i64 0), (.int .i64 0)]) (by kernel_rfl) (by kernel_rfl) rfl (Try.sizeOf93 _) rfl hp1) ?_
  intro w3 hn1
  replace h := h w3 hn1
  refine wpL_nil ?_
  refine th_n ?_
  refine wpE_ret ?_
  obtain ⟨qKind1, qFrom1, qTo1, qNum1, qText1, qA1, qB1, hv1, h⟩ := h
  refine resG (.inl rfl) (rs := [.cell 2 93]) (vs := [(.agg #[(.int .i64 qKind1), (.int .i64 qFrom1), (.int .i64 qTo1), (.int .u64 qNum1), (.string qText1), (.int .i64 qA1), (.int .i64 qB1)])]) (v := (.agg #[(.int .i64 qKind1), (.int .i64 qFrom1), (.int .i64 qTo1), (.int .u64 qNum1), (.string qText1), (.int .i64 qA1), (.int .i64 qB1)])) Try.results156 ⟨(RV.cellA (A := p2) (vs := [(.int .i64 qKind1), (.int .i64 qFrom1), (.int .i64 qTo1), (.int .u64 qNum1), (.string qText1), (.int .i64 qA1), (.int .i64 qB1)]) (by kernel_rfl) (Try.isAgg93 _) (Try.sizeOf93 _) rfl hv1), trivial⟩ (by kernel_rfl) ?_
  exact ⟨qKind1, qFrom1, qTo1, qNum1, qText1, qA1, qB1, rfl, h⟩

def m_term_plain_j3 (p1 : Addr) (p2 : Addr) (p3 : Addr) (x3 : Bool) (w : World) (K : Bool → Bool → Bool → Bool → Int → Int → World → Prop) : Prop :=
  Br x3
    (∃ vfrom1 : Bool, ∃ vto1 : Bool, ∃ vnum1 : Bool, ∃ vtext1 : Bool, ∃ vkids1 : Int, Row w p3 [(.bool vfrom1), (.bool vto1), (.bool vnum1), (.bool vtext1), (.int .i64 vkids1)] ∧
    (∀ j, j < 5 → CanW w (p2.add j)) ∧ ∀ w6 : World, w6 = storeRow w p2 [(.bool vfrom1), (.bool vto1), (.bool vnum1), (.bool vtext1), (.int .i64 vkids1)] →
    ∃ qfrom1 : Bool, ∃ qto1 : Bool, ∃ qnum1 : Bool, ∃ qtext1 : Bool, ∃ qkids1 : Int, Row w6 p2 [(.bool qfrom1), (.bool qto1), (.bool qnum1), (.bool qtext1), (.int .i64 qkids1)] ∧
    K qfrom1 qto1 qnum1 qtext1 qkids1 53 w6)
    (∃ v2 : Bool, w.cell? (p3.add 3) = some (.bool v2) ∧
    Br (!v2)
      (∃ v3 : ByteArray, w.cell? (p1.add 4) = some (.string v3) ∧
      Br (!(decide (v3 = (⟨#[]⟩ : ByteArray))))
        (∃ vfrom2 : Bool, ∃ vto2 : Bool, ∃ vnum2 : Bool, ∃ vtext2 : Bool, ∃ vkids2 : Int, Row w p3 [(.bool vfrom2), (.bool vto2), (.bool vnum2), (.bool vtext2), (.int .i64 vkids2)] ∧
        (∀ j, j < 5 → CanW w (p2.add j)) ∧ ∀ w7 : World, w7 = storeRow w p2 [(.bool vfrom2), (.bool vto2), (.bool vnum2), (.bool vtext2), (.int .i64 vkids2)] →
        ∃ qfrom2 : Bool, ∃ qto2 : Bool, ∃ qnum2 : Bool, ∃ qtext2 : Bool, ∃ qkids2 : Int, Row w7 p2 [(.bool qfrom2), (.bool qto2), (.bool qnum2), (.bool qtext2), (.int .i64 qkids2)] ∧
        K qfrom2 qto2 qnum2 qtext2 qkids2 53 w7)
        (∃ vfrom3 : Bool, ∃ vto3 : Bool, ∃ vnum3 : Bool, ∃ vtext3 : Bool, ∃ vkids3 : Int, Row w p3 [(.bool vfrom3), (.bool vto3), (.bool vnum3), (.bool vtext3), (.int .i64 vkids3)] ∧
        (∀ j, j < 5 → CanW w (p2.add j)) ∧ ∀ w8 : World, w8 = storeRow w p2 [(.bool vfrom3), (.bool vto3), (.bool vnum3), (.bool vtext3), (.int .i64 vkids3)] →
        ∃ qfrom3 : Bool, ∃ qto3 : Bool, ∃ qnum3 : Bool, ∃ qtext3 : Bool, ∃ qkids3 : Int, Row w8 p2 [(.bool qfrom3), (.bool qto3), (.bool qnum3), (.bool qtext3), (.int .i64 qkids3)] ∧
        K qfrom3 qto3 qnum3 qtext3 qkids3 0 w8))
      (∃ vfrom4 : Bool, ∃ vto4 : Bool, ∃ vnum4 : Bool, ∃ vtext4 : Bool, ∃ vkids4 : Int, Row w p3 [(.bool vfrom4), (.bool vto4), (.bool vnum4), (.bool vtext4), (.int .i64 vkids4)] ∧
      (∀ j, j < 5 → CanW w (p2.add j)) ∧ ∀ w9 : World, w9 = storeRow w p2 [(.bool vfrom4), (.bool vto4), (.bool vnum4), (.bool vtext4), (.int .i64 vkids4)] →
      ∃ qfrom4 : Bool, ∃ qto4 : Bool, ∃ qnum4 : Bool, ∃ qtext4 : Bool, ∃ qkids4 : Int, Row w9 p2 [(.bool qfrom4), (.bool qto4), (.bool qnum4), (.bool qtext4), (.int .i64 qkids4)] ∧
      K qfrom4 qto4 qnum4 qtext4 qkids4 0 w9))
def m_term_plain_j4 (p1 : Addr) (p2 : Addr) (p3 : Addr) (x2 : Bool) (x4 : Bool) (w : World) (K : Bool → Bool → Bool → Bool → Int → Int → World → Prop) : Prop :=
  Br x2
    (m_term_plain_j3 p1 p2 p3 true w K)
    (m_term_plain_j3 p1 p2 p3 x4 w K)
def m_term_plain_j2 (p1 : Addr) (p2 : Addr) (p3 : Addr) (x2 : Bool) (w : World) (K : Bool → Bool → Bool → Bool → Int → Int → World → Prop) : Prop :=
  Br x2
    (m_term_plain_j3 p1 p2 p3 true w K)
    (∃ v4 : Bool, w.cell? (p3.add 2) = some (.bool v4) ∧
    Br (!v4)
      (∃ v5 : Int, w.cell? (p1.add 3) = some (.int .u64 v5) ∧
      m_term_plain_j4 p1 p2 p3 x2 ((v5 : Int) != 0) w K)
      (m_term_plain_j4 p1 p2 p3 x2 false w K))
def m_term_plain_j5 (p1 : Addr) (p2 : Addr) (p3 : Addr) (x1 : Bool) (x5 : Bool) (w : World) (K : Bool → Bool → Bool → Bool → Int → Int → World → Prop) : Prop :=
  Br x1
    (m_term_plain_j2 p1 p2 p3 true w K)
    (m_term_plain_j2 p1 p2 p3 x5 w K)
def m_term_plain_j1 (p1 : Addr) (p2 : Addr) (p3 : Addr) (x1 : Bool) (w : World) (K : Bool → Bool → Bool → Bool → Int → Int → World → Prop) : Prop :=
  Br x1
    (m_term_plain_j2 p1 p2 p3 true w K)
    (∃ v6 : Bool, w.cell? (p3.add 1) = some (.bool v6) ∧
    Br (!v6)
      (∃ v7 : Int, w.cell? (p1.add 2) = some (.int .i64 v7) ∧
      m_term_plain_j5 p1 p2 p3 x1 ((v7 : Int) != 0) w K)
      (m_term_plain_j5 p1 p2 p3 x1 false w K))
def m_term_plain_j6 (p1 : Addr) (p2 : Addr) (r1 : Bool) (p3 : Addr) (x6 : Bool) (w : World) (K : Bool → Bool → Bool → Bool → Int → Int → World → Prop) : Prop :=
  Br (!r1)
    (m_term_plain_j1 p1 p2 p3 true w K)
    (m_term_plain_j1 p1 p2 p3 x6 w K)
def m_term_plain (nKind1 : Int) (nFrom1 : Int) (nTo1 : Int) (nNum1 : Int) (nText1 : ByteArray) (nA1 : Int) (nB1 : Int) (w : World) (K : Bool → Bool → Bool → Bool → Int → Int → World → Prop) : Prop :=
  ∀ (p1 : Addr) (w1 : World), New w (.cells #[(.int .i64 nKind1), (.int .i64 nFrom1), (.int .i64 nTo1), (.int .u64 nNum1), (.string nText1), (.int .i64 nA1), (.int .i64 nB1)] 93) p1 w1 →
  ∀ (p2 : Addr) (w2 : World), New w1 (.cells #[(.bool false), (.bool false), (.bool false), (.bool false), (.int .i64 0)] 234) p2 w2 →
  ∃ v1 : Int, w2.cell? p1 = some (.int .i64 v1) ∧
  Calls Try.prog 148 #[(.int .i64 v1)] w2 (fun e w3 => ∃ rfrom1 : Bool, ∃ rto1 : Bool, ∃ rnum1 : Bool, ∃ rtext1 : Bool, ∃ rkids1 : Int, ∃ r1 : Bool, e = .returned (.tuple #[(.agg #[(.bool rfrom1), (.bool rto1), (.bool rnum1), (.bool rtext1), (.int .i64 rkids1)]), (.bool r1)]) ∧ 
    ∀ (p3 : Addr) (w4 : World), New w3 (.cells #[(.bool false), (.bool false), (.bool false), (.bool false), (.int .i64 0)] 234) p3 w4 →
    (∀ j, j < 5 → CanW w4 (p3.add j)) ∧ ∀ w5 : World, w5 = storeRow w4 p3 [(.bool rfrom1), (.bool rto1), (.bool rnum1), (.bool rtext1), (.int .i64 rkids1)] →
    Br (!r1)
      (m_term_plain_j1 p1 p2 p3 true w5 K)
      (∃ v8 : Bool, w5.cell? p3 = some (.bool v8) ∧
      Br (!v8)
        (∃ v9 : Int, w5.cell? (p1.add 1) = some (.int .i64 v9) ∧
        m_term_plain_j6 p1 p2 r1 p3 ((v9 : Int) != 0) w5 K)
        (m_term_plain_j6 p1 p2 r1 p3 false w5 K)))
set_option maxRecDepth 100000 in
set_option maxHeartbeats 4000000 in
theorem w_term_plain (nKind1 : Int) (nFrom1 : Int) (nTo1 : Int) (nNum1 : Int) (nText1 : ByteArray) (nA1 : Int) (nB1 : Int) (w : World) (K : Bool → Bool → Bool → Bool → Int → Int → World → Prop) (h : m_term_plain nKind1 nFrom1 nTo1 nNum1 nText1 nA1 nB1 w K) :
    Calls Try.prog 157 #[(.agg #[(.int .i64 nKind1), (.int .i64 nFrom1), (.int .i64 nTo1), (.int .u64 nNum1), (.string nText1), (.int .i64 nA1), (.int .i64 nB1)])] w (fun e w' => ∃ rfrom2 : Bool, ∃ rto2 : Bool, ∃ rnum2 : Bool, ∃ rtext2 : Bool, ∃ rkids2 : Int, ∃ r2 : Int, e = .returned (.tuple #[(.agg #[(.bool rfrom2), (.bool rto2), (.bool rnum2), (.bool rtext2), (.int .i64 rkids2)]), (.int .i64 r2)]) ∧ K rfrom2 rto2 rnum2 rtext2 rkids2 r2 w') := by
  unfold m_term_plain at h
  refine calls_of_wpE (args := [(.agg #[(.int .i64 nKind1), (.int .i64 nFrom1), (.int .i64 nTo1), (.int .u64 nNum1), (.string nText1), (.int .i64 nA1), (.int .i64 nB1)])]) Try.func157 rfl Try.ntmps157 (Nat.le_of_ble_eq_true rfl) ?_
  refine wpE_seq ?_
  refine rg ?_
  refine st_new (O := (.cells #[(.int .i64 nKind1), (.int .i64 nFrom1), (.int .i64 nTo1), (.int .u64 nNum1), (.string nText1), (.int .i64 nA1), (.int .i64 nB1)] 93)) (fun p => .pointer (some p)) (want0 rfl) (x_box (cs := #[(.int .i64 nKind1), (.int .i64 nFrom1), (.int .i64 nTo1), (.int .u64 nNum1), (.string nText1), (.int .i64 nA1), (.int .i64 nB1)]) (by kernel_rfl)) ?_
  intro p1 w1 hn8
  replace h := h p1 w1 hn8
  refine st_new (O := (.cells #[(.bool false), (.bool false), (.bool false), (.bool false), (.int .i64 0)] 234)) (fun p => .pointer (some p)) (want0 rfl) (x_alloc (Try.zeroValue234 _) rfl) ?_
  intro p2 w2 hn7
  replace h := h p2 w2 hn7
  refine q0 (.int .i64 0) ?_
  refine wpL_nil ?_
  refine th_n ?_
  refine wpE_seq ?_
  refine rg ?_
  refine q0 (.pointer (some p1)) ?_
  obtain ⟨v1, hv17, h⟩ := h
  refine q2 (.int .i64 v1) (x_load (a := p1) (by kernel_rfl) (Try.isAgg3 _) hv17) ?_
  refine st_call (want0 rfl) (x_callE (args := #[(.int .i64 v1)]) Try.call148 (by kernel_rfl)) (h.mono ?_)
  clear h
  rintro e w3 ⟨rfrom1, rto1, rnum1, rtext1, rkids1, r1, rfl, h⟩
  refine ⟨_, rfl, ?_⟩
  refine q0 (.tuple #[(.agg #[(.bool rfrom1), (.bool rto1), (.bool rnum1), (.bool rtext1), (.int .i64 rkids1)]), (.bool r1)]) ?_
  refine q0 (.agg #[(.bool rfrom1), (.bool rto1), (.bool rnum1), (.bool rtext1), (.int .i64 rkids1)]) ?_
  refine q0 (.bool r1) ?_
  refine st_new (O := (.cells #[(.bool false), (.bool false), (.bool false), (.bool false), (.int .i64 0)] 234)) (fun p => .pointer (some p)) (want0 rfl) (x_alloc (Try.zeroValue234 _) rfl) ?_
  intro p3 w4 hn6
  replace h := h p3 w4 hn6
  obtain ⟨hp1, h⟩ := h
  refine st_set (want0 rfl) (x_storeA (a := p3) (vs := [(.bool rfrom1), (.bool rto1), (.bool rnum1), (.bool rtext1), (.int .i64 rkids1)]) (by kernel_rfl) (by kernel_rfl) rfl (Try.sizeOf234 _) rfl hp1) ?_
  intro w5 hn1
  replace h := h w5 hn1
  refine q0 (.bool r1) ?_
  refine wpL_nil ?_
  refine th_n ?_
  refine wpE_seq ?_
  refine wpE_seq ?_
  refine rg ?_
  refine q0 (.bool r1) ?_
  refine q0 (.bool (!r1)) ?_
  refine q0 (.bool (!r1)) ?_
  refine wpL_join 9 (fun ρ w => ∃ x1 : Bool, Has ρ [(1, (.pointer (some p1))), (2, (.pointer (some p2))), (4, (.pointer (some p3))), (23, (.bool x1))] ∧ m_term_plain_j1 p1 p2 p3 x1 w K) ?_ ?_
  · rintro ρ w ⟨x1, hH, h⟩
    unfold m_term_plain_j1 at h
    refine wpL_has hH ?_
    clear hH
    refine q0 (.bool x1) ?_
    refine wpL_join 9 (fun ρ w => ∃ x2 : Bool, Has ρ [(1, (.pointer (some p1))), (2, (.pointer (some p2))), (4, (.pointer (some p3))), (33, (.bool x2))] ∧ m_term_plain_j2 p1 p2 p3 x2 w K) ?_ ?_
    · rintro ρ w ⟨x2, hH, h⟩
      unfold m_term_plain_j2 at h
      refine wpL_has hH ?_
      clear hH
      refine q0 (.bool x2) ?_
      refine wpL_join 9 (fun ρ w => ∃ x3 : Bool, Has ρ [(1, (.pointer (some p1))), (2, (.pointer (some p2))), (4, (.pointer (some p3))), (43, (.bool x3))] ∧ m_term_plain_j3 p1 p2 p3 x3 w K) ?_ ?_
      · rintro ρ w ⟨x3, hH, h⟩
        unfold m_term_plain_j3 at h
        refine wpL_has hH ?_
        clear hH
        refine q0 (.bool x3) ?_
        rcases Bool.eq_false_or_eq_true x3 with hg1 | hg1
        · replace h := h.1 hg1
          refine st_not (unwant rfl (yD 44 hg1) rfl) ?_
          refine st_not (unwant rfl (yD 44 hg1) rfl) ?_
          refine st_not (unwant rfl (yD 44 hg1) rfl) ?_
          refine st_not (unwant rfl (yD 44 hg1) rfl) ?_
          refine st_not (by kernel_rfl) ?_
          refine st_not (by kernel_rfl) ?_
          refine st_not (by kernel_rfl) ?_
          refine st_not (unwant rfl (yD 44 hg1) rfl) ?_
          refine q2 (.bool true) (x_pickT (b := x3) (by kernel_rfl) hg1 (by kernel_rfl)) ?_
          refine wpL_nil ?_
          refine th_n ?_
          refine wpE_condT (by kernel_rfl) ?_
          refine wpE_seq ?_
          refine rg ?_
          obtain ⟨vfrom1, vto1, vnum1, vtext1, vkids1, hv2, h⟩ := h
          refine q2 (.agg #[(.bool vfrom1), (.bool vto1), (.bool vnum1), (.bool vtext1), (.int .i64 vkids1)]) (x_loadA (a := p3) (vs := [(.bool vfrom1), (.bool vto1), (.bool vnum1), (.bool vtext1), (.int .i64 vkids1)]) (by kernel_rfl) (Try.isAgg234 _) (Try.sizeOf234 _) rfl hv2) ?_
          obtain ⟨hp2, h⟩ := h
          refine st_set (want0 rfl) (x_storeA (a := p2) (vs := [(.bool vfrom1), (.bool vto1), (.bool vnum1), (.bool vtext1), (.int .i64 vkids1)]) (by kernel_rfl) (by kernel_rfl) rfl (Try.sizeOf234 _) rfl hp2) ?_
          intro w6 hn2
          replace h := h w6 hn2
          refine q0 (.int .i64 53) ?_
          refine wpL_nil ?_
          refine th_n ?_
          refine wpE_ret ?_
          refine th_r ?_
          obtain ⟨qfrom1, qto1, qnum1, qtext1, qkids1, hv1, h⟩ := h
          refine resG (.inl rfl) (rs := [.cell 2 234, .tmp 3]) (vs := [(.agg #[(.bool qfrom1), (.bool qto1), (.bool qnum1), (.bool qtext1), (.int .i64 qkids1)]), (.int .i64 53)]) (v := (.tuple #[(.agg #[(.bool qfrom1), (.bool qto1), (.bool qnum1), (.bool qtext1), (.int .i64 qkids1)]), (.int .i64 53)])) Try.results157 ⟨(RV.cellA (A := p2) (vs := [(.bool qfrom1), (.bool qto1), (.bool qnum1), (.bool qtext1), (.int .i64 qkids1)]) (by kernel_rfl) (Try.isAgg234 _) (Try.sizeOf234 _) rfl hv1), (rvT (by kernel_rfl)), trivial⟩ (by kernel_rfl) ?_
          exact ⟨qfrom1, qto1, qnum1, qtext1, qkids1, 53, rfl, h⟩
        · replace h := h.2 hg1
          refine q1 (.pointer (some (p3.add 3))) (want1 rfl (yD 44 hg1)) ?_
          obtain ⟨v2, hv10, h⟩ := h
          refine stp (v := (.bool v2)) (want1 rfl (yD 44 hg1)) (x_load (a := (p3.add 3)) (by kernel_rfl) (Try.isAgg4 _) hv10) ?_
          refine q1 (.bool (!v2)) (want1 rfl (yD 44 hg1)) ?_
          refine q1 (.bool (!v2)) (want1 rfl (yD 44 hg1)) ?_
          rcases Bool.eq_false_or_eq_true (!v2) with hg2 | hg2
          · replace h := h.1 hg2
            refine q1 (.pointer (some (p1.add 4))) (want1 rfl (yD 48 hg2)) ?_
            obtain ⟨v3, hv7, h⟩ := h
            refine stp (v := (.string v3)) (want1 rfl (yD 48 hg2)) (x_load (a := (p1.add 4)) (by kernel_rfl) (Try.isAgg9 _) hv7) ?_
            refine stp (v := (.bool (!(decide (v3 = (⟨#[]⟩ : ByteArray)))))) (want1 rfl (yD 48 hg2)) (x_strneq (by kernel_rfl) (by kernel_rfl)) ?_
            refine stp (v := (.bool (!(decide (v3 = (⟨#[]⟩ : ByteArray)))))) (want1 rfl (yD 44 hg1)) (x_pickT (b := (!v2)) (by kernel_rfl) hg2 (by kernel_rfl)) ?_
            refine q2 (.bool (!(decide (v3 = (⟨#[]⟩ : ByteArray))))) (x_pickF (b := x3) (by kernel_rfl) hg1 (by kernel_rfl)) ?_
            refine wpL_nil ?_
            refine th_n ?_
            refine wpE_cond (t := (!(decide (v3 = (⟨#[]⟩ : ByteArray))))) (by kernel_rfl) (fun hc1 => ?_) (fun hc1 => ?_)
            · replace h := h.1 hc1
              refine wpE_seq ?_
              refine rg ?_
              obtain ⟨vfrom2, vto2, vnum2, vtext2, vkids2, hv4, h⟩ := h
              refine q2 (.agg #[(.bool vfrom2), (.bool vto2), (.bool vnum2), (.bool vtext2), (.int .i64 vkids2)]) (x_loadA (a := p3) (vs := [(.bool vfrom2), (.bool vto2), (.bool vnum2), (.bool vtext2), (.int .i64 vkids2)]) (by kernel_rfl) (Try.isAgg234 _) (Try.sizeOf234 _) rfl hv4) ?_
              obtain ⟨hp3, h⟩ := h
              refine st_set (want0 rfl) (x_storeA (a := p2) (vs := [(.bool vfrom2), (.bool vto2), (.bool vnum2), (.bool vtext2), (.int .i64 vkids2)]) (by kernel_rfl) (by kernel_rfl) rfl (Try.sizeOf234 _) rfl hp3) ?_
              intro w7 hn3
              replace h := h w7 hn3
              refine q0 (.int .i64 53) ?_
              refine wpL_nil ?_
              refine th_n ?_
              refine wpE_ret ?_
              refine th_r ?_
              obtain ⟨qfrom2, qto2, qnum2, qtext2, qkids2, hv3, h⟩ := h
              refine resG (.inl rfl) (rs := [.cell 2 234, .tmp 3]) (vs := [(.agg #[(.bool qfrom2), (.bool qto2), (.bool qnum2), (.bool qtext2), (.int .i64 qkids2)]), (.int .i64 53)]) (v := (.tuple #[(.agg #[(.bool qfrom2), (.bool qto2), (.bool qnum2), (.bool qtext2), (.int .i64 qkids2)]), (.int .i64 53)])) Try.results157 ⟨(RV.cellA (A := p2) (vs := [(.bool qfrom2), (.bool qto2), (.bool qnum2), (.bool qtext2), (.int .i64 qkids2)]) (by kernel_rfl) (Try.isAgg234 _) (Try.sizeOf234 _) rfl hv3), (rvT (by kernel_rfl)), trivial⟩ (by kernel_rfl) ?_
              exact ⟨qfrom2, qto2, qnum2, qtext2, qkids2, 53, rfl, h⟩
            · replace h := h.2 hc1
              refine wpE_skip ?_
              refine th_n ?_
              refine wpE_seq ?_
              refine rg ?_
              obtain ⟨vfrom3, vto3, vnum3, vtext3, vkids3, hv6, h⟩ := h
              refine q2 (.agg #[(.bool vfrom3), (.bool vto3), (.bool vnum3), (.bool vtext3), (.int .i64 vkids3)]) (x_loadA (a := p3) (vs := [(.bool vfrom3), (.bool vto3), (.bool vnum3), (.bool vtext3), (.int .i64 vkids3)]) (by kernel_rfl) (Try.isAgg234 _) (Try.sizeOf234 _) rfl hv6) ?_
              obtain ⟨hp4, h⟩ := h
              refine st_set (want0 rfl) (x_storeA (a := p2) (vs := [(.bool vfrom3), (.bool vto3), (.bool vnum3), (.bool vtext3), (.int .i64 vkids3)]) (by kernel_rfl) (by kernel_rfl) rfl (Try.sizeOf234 _) rfl hp4) ?_
              intro w8 hn4
              replace h := h w8 hn4
              refine q0 (.int .i64 0) ?_
              refine wpL_nil ?_
              refine th_n ?_
              refine wpE_ret ?_
              obtain ⟨qfrom3, qto3, qnum3, qtext3, qkids3, hv5, h⟩ := h
              refine resG (.inl rfl) (rs := [.cell 2 234, .tmp 3]) (vs := [(.agg #[(.bool qfrom3), (.bool qto3), (.bool qnum3), (.bool qtext3), (.int .i64 qkids3)]), (.int .i64 0)]) (v := (.tuple #[(.agg #[(.bool qfrom3), (.bool qto3), (.bool qnum3), (.bool qtext3), (.int .i64 qkids3)]), (.int .i64 0)])) Try.results157 ⟨(RV.cellA (A := p2) (vs := [(.bool qfrom3), (.bool qto3), (.bool qnum3), (.bool qtext3), (.int .i64 qkids3)]) (by kernel_rfl) (Try.isAgg234 _) (Try.sizeOf234 _) rfl hv5), (rvT (by kernel_rfl)), trivial⟩ (by kernel_rfl) ?_
              exact ⟨qfrom3, qto3, qnum3, qtext3, qkids3, 0, rfl, h⟩
          · replace h := h.2 hg2
            refine st_not (unwant rfl (yD 48 hg2) rfl) ?_
            refine st_not (unwant rfl (yD 48 hg2) rfl) ?_
            refine st_not (unwant rfl (yD 48 hg2) rfl) ?_
            refine stp (v := (.bool false)) (want1 rfl (yD 44 hg1)) (x_pickF (b := (!v2)) (by kernel_rfl) hg2 (by kernel_rfl)) ?_
            refine q2 (.bool false) (x_pickF (b := x3) (by kernel_rfl) hg1 (by kernel_rfl)) ?_
            refine wpL_nil ?_
            refine th_n ?_
            refine wpE_condF (by kernel_rfl) ?_
            refine wpE_skip ?_
            refine th_n ?_
            refine wpE_seq ?_
            refine rg ?_
            obtain ⟨vfrom4, vto4, vnum4, vtext4, vkids4, hv9, h⟩ := h
            refine q2 (.agg #[(.bool vfrom4), (.bool vto4), (.bool vnum4), (.bool vtext4), (.int .i64 vkids4)]) (x_loadA (a := p3) (vs := [(.bool vfrom4), (.bool vto4), (.bool vnum4), (.bool vtext4), (.int .i64 vkids4)]) (by kernel_rfl) (Try.isAgg234 _) (Try.sizeOf234 _) rfl hv9) ?_
            obtain ⟨hp5, h⟩ := h
            refine st_set (want0 rfl) (x_storeA (a := p2) (vs := [(.bool vfrom4), (.bool vto4), (.bool vnum4), (.bool vtext4), (.int .i64 vkids4)]) (by kernel_rfl) (by kernel_rfl) rfl (Try.sizeOf234 _) rfl hp5) ?_
            intro w9 hn5
            replace h := h w9 hn5
            refine q0 (.int .i64 0) ?_
            refine wpL_nil ?_
            refine th_n ?_
            refine wpE_ret ?_
            obtain ⟨qfrom4, qto4, qnum4, qtext4, qkids4, hv8, h⟩ := h
            refine resG (.inl rfl) (rs := [.cell 2 234, .tmp 3]) (vs := [(.agg #[(.bool qfrom4), (.bool qto4), (.bool qnum4), (.bool qtext4), (.int .i64 qkids4)]), (.int .i64 0)]) (v := (.tuple #[(.agg #[(.bool qfrom4), (.bool qto4), (.bool qnum4), (.bool qtext4), (.int .i64 qkids4)]), (.int .i64 0)])) Try.results157 ⟨(RV.cellA (A := p2) (vs := [(.bool qfrom4), (.bool qto4), (.bool qnum4), (.bool qtext4), (.int .i64 qkids4)]) (by kernel_rfl) (Try.isAgg234 _) (Try.sizeOf234 _) rfl hv8), (rvT (by kernel_rfl)), trivial⟩ (by kernel_rfl) ?_
            exact ⟨qfrom4, qto4, qnum4, qtext4, qkids4, 0, rfl, h⟩
      · skip
        rcases Bool.eq_false_or_eq_true x2 with hg3 | hg3
        · replace h := h.1 hg3
          refine st_not (unwant rfl (yD 34 hg3) rfl) ?_
          refine st_not (unwant rfl (yD 34 hg3) rfl) ?_
          refine st_not (unwant rfl (yD 34 hg3) rfl) ?_
          refine st_not (unwant rfl (yD 34 hg3) rfl) ?_
          refine st_not (by kernel_rfl) ?_
          refine st_not (by kernel_rfl) ?_
          refine st_not (by kernel_rfl) ?_
          refine st_not (unwant rfl (yD 34 hg3) rfl) ?_
          refine q2 (.bool true) (x_pickT (b := x2) (by kernel_rfl) hg3 (by kernel_rfl)) ?_
          refine wpL_nil ?_
          exact ⟨true, Has.mk (by kernel_rfl), h⟩
        · replace h := h.2 hg3
          refine q1 (.pointer (some (p3.add 2))) (want1 rfl (yD 34 hg3)) ?_
          obtain ⟨v4, hv12, h⟩ := h
          refine stp (v := (.bool v4)) (want1 rfl (yD 34 hg3)) (x_load (a := (p3.add 2)) (by kernel_rfl) (Try.isAgg4 _) hv12) ?_
          refine q1 (.bool (!v4)) (want1 rfl (yD 34 hg3)) ?_
          refine q1 (.bool (!v4)) (want1 rfl (yD 34 hg3)) ?_
          refine wpL_join 4 (fun ρ w => ∃ x4 : Bool, Has ρ [(1, (.pointer (some p1))), (2, (.pointer (some p2))), (4, (.pointer (some p3))), (34, (.bool x2)), (42, (.bool x4))] ∧ m_term_plain_j4 p1 p2 p3 x2 x4 w K) ?_ ?_
          · rintro ρ w ⟨x4, hH, h⟩
            unfold m_term_plain_j4 at h
            refine wpL_has hH ?_
            clear hH
            rcases Bool.eq_false_or_eq_true x2 with hg4 | hg4
            · replace h := h.1 hg4
              refine q2 (.bool true) (x_pickT (b := x2) (by kernel_rfl) hg4 (by kernel_rfl)) ?_
              refine wpL_nil ?_
              exact ⟨true, Has.mk (by kernel_rfl), h⟩
            · replace h := h.2 hg4
              refine q2 (.bool x4) (x_pickF (b := x2) (by kernel_rfl) hg4 (by kernel_rfl)) ?_
              refine wpL_nil ?_
              exact ⟨x4, Has.mk (by kernel_rfl), h⟩
          · skip
            rcases Bool.eq_false_or_eq_true (!v4) with hg5 | hg5
            · replace h := h.1 hg5
              refine q1 (.pointer (some (p1.add 3))) (want1 rfl (yD 38 hg5)) ?_
              obtain ⟨v5, hv11, h⟩ := h
              refine stp (v := (.int .u64 v5)) (want1 rfl (yD 38 hg5)) (x_load (a := (p1.add 3)) (by kernel_rfl) (Try.isAgg38 _) hv11) ?_
              refine q1 (.bool ((v5 : Int) != 0)) (want1 rfl (yD 38 hg5)) ?_
              refine stp (v := (.bool ((v5 : Int) != 0))) (want1 rfl (yD 34 hg3)) (x_pickT (b := (!v4)) (by kernel_rfl) hg5 (by kernel_rfl)) ?_
              refine wpL_nil ?_
              exact ⟨((v5 : Int) != 0), Has.mk (by kernel_rfl), h⟩
            · replace h := h.2 hg5
              refine st_not (unwant rfl (yD 38 hg5) rfl) ?_
              refine st_not (unwant rfl (yD 38 hg5) rfl) ?_
              refine st_not (unwant rfl (yD 38 hg5) rfl) ?_
              refine stp (v := (.bool false)) (want1 rfl (yD 34 hg3)) (x_pickF (b := (!v4)) (by kernel_rfl) hg5 (by kernel_rfl)) ?_
              refine wpL_nil ?_
              exact ⟨false, Has.mk (by kernel_rfl), h⟩
    · skip
      rcases Bool.eq_false_or_eq_true x1 with hg6 | hg6
      · replace h := h.1 hg6
        refine st_not (unwant rfl (yD 24 hg6) rfl) ?_
        refine st_not (unwant rfl (yD 24 hg6) rfl) ?_
        refine st_not (unwant rfl (yD 24 hg6) rfl) ?_
        refine st_not (unwant rfl (yD 24 hg6) rfl) ?_
        refine st_not (by kernel_rfl) ?_
        refine st_not (by kernel_rfl) ?_
        refine st_not (by kernel_rfl) ?_
        refine st_not (unwant rfl (yD 24 hg6) rfl) ?_
        refine q2 (.bool true) (x_pickT (b := x1) (by kernel_rfl) hg6 (by kernel_rfl)) ?_
        refine wpL_nil ?_
        exact ⟨true, Has.mk (by kernel_rfl), h⟩
      · replace h := h.2 hg6
        refine q1 (.pointer (some (p3.add 1))) (want1 rfl (yD 24 hg6)) ?_
        obtain ⟨v6, hv14, h⟩ := h
        refine stp (v := (.bool v6)) (want1 rfl (yD 24 hg6)) (x_load (a := (p3.add 1)) (by kernel_rfl) (Try.isAgg4 _) hv14) ?_
        refine q1 (.bool (!v6)) (want1 rfl (yD 24 hg6)) ?_
        refine q1 (.bool (!v6)) (want1 rfl (yD 24 hg6)) ?_
        refine wpL_join 4 (fun ρ w => ∃ x5 : Bool, Has ρ [(1, (.pointer (some p1))), (2, (.pointer (some p2))), (4, (.pointer (some p3))), (24, (.bool x1)), (32, (.bool x5))] ∧ m_term_plain_j5 p1 p2 p3 x1 x5 w K) ?_ ?_
        · rintro ρ w ⟨x5, hH, h⟩
          unfold m_term_plain_j5 at h
          refine wpL_has hH ?_
          clear hH
          rcases Bool.eq_false_or_eq_true x1 with hg7 | hg7
          · replace h := h.1 hg7
            refine q2 (.bool true) (x_pickT (b := x1) (by kernel_rfl) hg7 (by kernel_rfl)) ?_
            refine wpL_nil ?_
            exact ⟨true, Has.mk (by kernel_rfl), h⟩
          · replace h := h.2 hg7
            refine q2 (.bool x5) (x_pickF (b := x1) (by kernel_rfl) hg7 (by kernel_rfl)) ?_
            refine wpL_nil ?_
            exact ⟨x5, Has.mk (by kernel_rfl), h⟩
        · skip
          rcases Bool.eq_false_or_eq_true (!v6) with hg8 | hg8
          · replace h := h.1 hg8
            refine q1 (.pointer (some (p1.add 2))) (want1 rfl (yD 28 hg8)) ?_
            obtain ⟨v7, hv13, h⟩ := h
            refine stp (v := (.int .i64 v7)) (want1 rfl (yD 28 hg8)) (x_load (a := (p1.add 2)) (by kernel_rfl) (Try.isAgg3 _) hv13) ?_
            refine q1 (.bool ((v7 : Int) != 0)) (want1 rfl (yD 28 hg8)) ?_
            refine stp (v := (.bool ((v7 : Int) != 0))) (want1 rfl (yD 24 hg6)) (x_pickT (b := (!v6)) (by kernel_rfl) hg8 (by kernel_rfl)) ?_
            refine wpL_nil ?_
            exact ⟨((v7 : Int) != 0), Has.mk (by kernel_rfl), h⟩
          · replace h := h.2 hg8
            refine st_not (unwant rfl (yD 28 hg8) rfl) ?_
            refine st_not (unwant rfl (yD 28 hg8) rfl) ?_
            refine st_not (unwant rfl (yD 28 hg8) rfl) ?_
            refine stp (v := (.bool false)) (want1 rfl (yD 24 hg6)) (x_pickF (b := (!v6)) (by kernel_rfl) hg8 (by kernel_rfl)) ?_
            refine wpL_nil ?_
            exact ⟨false, Has.mk (by kernel_rfl), h⟩
  · skip
    rcases Bool.eq_false_or_eq_true (!r1) with hg9 | hg9
    · replace h := h.1 hg9
      refine st_not (unwant rfl (yD 14 hg9) rfl) ?_
      refine st_not (unwant rfl (yD 14 hg9) rfl) ?_
      refine st_not (unwant rfl (yD 14 hg9) rfl) ?_
      refine st_not (unwant rfl (yD 14 hg9) rfl) ?_
      refine st_not (by kernel_rfl) ?_
      refine st_not (by kernel_rfl) ?_
      refine st_not (by kernel_rfl) ?_
      refine st_not (unwant rfl (yD 14 hg9) rfl) ?_
      refine q2 (.bool true) (x_pickT (b := (!r1)) (by kernel_rfl) hg9 (by kernel_rfl)) ?_
      refine wpL_nil ?_
      exact ⟨true, Has.mk (by kernel_rfl), h⟩
    · replace h := h.2 hg9
      refine q1 (.pointer (some p3)) (want1 rfl (yD 14 hg9)) ?_
      obtain ⟨v8, hv16, h⟩ := h
      refine stp (v := (.bool v8)) (want1 rfl (yD 14 hg9)) (x_load (a := p3) (by kernel_rfl) (Try.isAgg4 _) hv16) ?_
      refine q1 (.bool (!v8)) (want1 rfl (yD 14 hg9)) ?_
      refine q1 (.bool (!v8)) (want1 rfl (yD 14 hg9)) ?_
      refine wpL_join 4 (fun ρ w => ∃ x6 : Bool, Has ρ [(1, (.pointer (some p1))), (2, (.pointer (some p2))), (4, (.pointer (some p3))), (14, (.bool (!r1))), (22, (.bool x6))] ∧ m_term_plain_j6 p1 p2 r1 p3 x6 w K) ?_ ?_
      · rintro ρ w ⟨x6, hH, h⟩
        unfold m_term_plain_j6 at h
        refine wpL_has hH ?_
        clear hH
        rcases Bool.eq_false_or_eq_true (!r1) with hg10 | hg10
        · replace h := h.1 hg10
          refine q2 (.bool true) (x_pickT (b := (!r1)) (by kernel_rfl) hg10 (by kernel_rfl)) ?_
          refine wpL_nil ?_
          exact ⟨true, Has.mk (by kernel_rfl), h⟩
        · replace h := h.2 hg10
          refine q2 (.bool x6) (x_pickF (b := (!r1)) (by kernel_rfl) hg10 (by kernel_rfl)) ?_
          refine wpL_nil ?_
          exact ⟨x6, Has.mk (by kernel_rfl), h⟩
      · skip
        rcases Bool.eq_false_or_eq_true (!v8) with hg11 | hg11
        · replace h := h.1 hg11
          refine q1 (.pointer (some (p1.add 1))) (want1 rfl (yD 18 hg11)) ?_
          obtain ⟨v9, hv15, h⟩ := h
          refine stp (v := (.int .i64 v9)) (want1 rfl (yD 18 hg11)) (x_load (a := (p1.add 1)) (by kernel_rfl) (Try.isAgg3 _) hv15) ?_
          refine q1 (.bool ((v9 : Int) != 0)) (want1 rfl (yD 18 hg11)) ?_
          refine stp (v := (.bool ((v9 : Int) != 0))) (want1 rfl (yD 14 hg9)) (x_pickT (b := (!v8)) (by kernel_rfl) hg11 (by kernel_rfl)) ?_
          refine wpL_nil ?_
          exact ⟨((v9 : Int) != 0), Has.mk (by kernel_rfl), h⟩
        · replace h := h.2 hg11
          refine st_not (unwant rfl (yD 18 hg11) rfl) ?_
          refine st_not (unwant rfl (yD 18 hg11) rfl) ?_
          refine st_not (unwant rfl (yD 18 hg11) rfl) ?_
          refine stp (v := (.bool false)) (want1 rfl (yD 14 hg9)) (x_pickF (b := (!v8)) (by kernel_rfl) hg11 (by kernel_rfl)) ?_
          refine wpL_nil ?_
          exact ⟨false, Has.mk (by kernel_rfl), h⟩

def m_term_fields_j1 (p1 : Addr) (p2 : Addr) (x1 : Bool) (w : World) (K : Int → World → Prop) : Prop :=
  Br x1
    (K 50 w)
    (∃ v1 : Bool, w.cell? (p1.add 1) = some (.bool v1) ∧
    Br v1
      (∃ v2 : Int, w.cell? (p2.add 2) = some (.int .i64 v2) ∧
      Calls Try.prog 217 #[(.int .i64 v2)] w (fun e w3 => ∃ r1 : Bool, e = .returned (.bool r1) ∧ 
        Br (!r1)
          (K 50 w3)
          (∃ v3 : Int, w3.cell? (p2.add 2) = some (.int .i64 v3) ∧
          ∃ v4 : Int, w3.cell? (p2.add 1) = some (.int .i64 v4) ∧
          Br ((v3 : Int) == v4)
            (K 50 w3)
            (∃ v5 : ByteArray, w3.cell? (p2.add 4) = some (.string v5) ∧
            Br (decide ((v5.size : Int) > 64))
              (K 1 w3)
              (K 0 w3)))))
      (∃ v6 : ByteArray, w.cell? (p2.add 4) = some (.string v6) ∧
      Br (decide ((v6.size : Int) > 64))
        (K 1 w)
        (K 0 w)))
def m_term_fields (sfrom1 : Bool) (sto1 : Bool) (snum1 : Bool) (stext1 : Bool) (skids1 : Int) (nKind1 : Int) (nFrom1 : Int) (nTo1 : Int) (nNum1 : Int) (nText1 : ByteArray) (nA1 : Int) (nB1 : Int) (w : World) (K : Int → World → Prop) : Prop :=
  ∀ (p1 : Addr) (w1 : World), New w (.cells #[(.bool sfrom1), (.bool sto1), (.bool snum1), (.bool stext1), (.int .i64 skids1)] 234) p1 w1 →
  ∀ (p2 : Addr) (w2 : World), New w1 (.cells #[(.int .i64 nKind1), (.int .i64 nFrom1), (.int .i64 nTo1), (.int .u64 nNum1), (.string nText1), (.int .i64 nA1), (.int .i64 nB1)] 93) p2 w2 →
  ∃ v7 : Bool, w2.cell? p1 = some (.bool v7) ∧
  Br v7
    (∃ v8 : Int, w2.cell? (p2.add 1) = some (.int .i64 v8) ∧
    Calls Try.prog 217 #[(.int .i64 v8)] w2 (fun e w4 => ∃ r2 : Bool, e = .returned (.bool r2) ∧ 
      m_term_fields_j1 p1 p2 (!r2) w4 K))
    (m_term_fields_j1 p1 p2 false w2 K)
set_option maxRecDepth 100000 in
set_option maxHeartbeats 4000000 in
theorem w_term_fields (sfrom1 : Bool) (sto1 : Bool) (snum1 : Bool) (stext1 : Bool) (skids1 : Int) (nKind1 : Int) (nFrom1 : Int) (nTo1 : Int) (nNum1 : Int) (nText1 : ByteArray) (nA1 : Int) (nB1 : Int) (w : World) (K : Int → World → Prop) (h : m_term_fields sfrom1 sto1 snum1 stext1 skids1 nKind1 nFrom1 nTo1 nNum1 nText1 nA1 nB1 w K) :
    Calls Try.prog 158 #[(.agg #[(.bool sfrom1), (.bool sto1), (.bool snum1), (.bool stext1), (.int .i64 skids1)]), (.agg #[(.int .i64 nKind1), (.int .i64 nFrom1), (.int .i64 nTo1), (.int .u64 nNum1), (.string nText1), (.int .i64 nA1), (.int .i64 nB1)])] w (fun e w' => ∃ r3 : Int, e = .returned (.int .i64 r3) ∧ K r3 w') := by
  unfold m_term_fields at h
  refine calls_of_wpE (args := [(.agg #[(.bool sfrom1), (.bool sto1), (.bool snum1), (.bool stext1), (.int .i64 skids1)]), (.agg #[(.int .i64 nKind1), (.int .i64 nFrom1), (.int .i64 nTo1), (.int .u64 nNum1), (.string nText1), (.int .i64 nA1), (.int .i64 nB1)])]) Try.func158 rfl Try.ntmps158 (Nat.le_of_ble_eq_true rfl) ?_
  refine wpE_seq ?_
  refine rg ?_
  refine st_new (O := (.cells #[(.bool sfrom1), (.bool sto1), (.bool snum1), (.bool stext1), (.int .i64 skids1)] 234)) (fun p => .pointer (some p)) (want0 rfl) (x_box (cs := #[(.bool sfrom1), (.bool sto1), (.bool snum1), (.bool stext1), (.int .i64 skids1)]) (by kernel_rfl)) ?_
  intro p1 w1 hn2
  replace h := h p1 w1 hn2
  refine st_new (O := (.cells #[(.int .i64 nKind1), (.int .i64 nFrom1), (.int .i64 nTo1), (.int .u64 nNum1), (.string nText1), (.int .i64 nA1), (.int .i64 nB1)] 93)) (fun p => .pointer (some p)) (want0 rfl) (x_box (cs := #[(.int .i64 nKind1), (.int .i64 nFrom1), (.int .i64 nTo1), (.int .u64 nNum1), (.string nText1), (.int .i64 nA1), (.int .i64 nB1)]) (by kernel_rfl)) ?_
  intro p2 w2 hn1
  replace h := h p2 w2 hn1
  refine q0 (.int .i64 0) ?_
  refine wpL_nil ?_
  refine th_n ?_
  refine wpE_seq ?_
  refine wpE_block ?_
  refine wpE_seq ?_
  refine wpE_join (fun ρ w => ∃ x1 : Bool, Has ρ [(2, (.pointer (some p1))), (3, (.pointer (some p2))), (5, (.bool x1))] ∧ m_term_fields_j1 p1 p2 x1 w K) ?_ ?_
  · rintro ρ w ⟨x1, hH, h⟩
    unfold m_term_fields_j1 at h
    refine wpE_has hH ?_
    clear hH
    refine wpE_cond (t := x1) (by kernel_rfl) (fun hc1 => ?_) (fun hc1 => ?_)
    · replace h := h.1 hc1
      refine wpE_skip ?_
      refine th_n ?_
      refine wpE_condT' (t := x1) (by kernel_rfl) hc1 ?_
      refine wpE_seq ?_
      refine rg ?_
      refine q0 (.int .i64 50) ?_
      refine wpL_nil ?_
      refine th_n ?_
      refine wpE_ret ?_
      refine bl_r ?_
      refine th_r ?_
      refine res1 (.inl rfl) Try.results158 (v := (.int .i64 50)) (by kernel_rfl) ?_
      exact ⟨50, rfl, h⟩
    · replace h := h.2 hc1
      refine rg ?_
      refine q0 (.pointer (some (p1.add 1))) ?_
      obtain ⟨v1, hv6, h⟩ := h
      refine q2 (.bool v1) (x_load (a := (p1.add 1)) (by kernel_rfl) (Try.isAgg4 _) hv6) ?_
      refine q0 (.bool v1) ?_
      rcases Bool.eq_false_or_eq_true v1 with hg1 | hg1
      · replace h := h.1 hg1
        refine q1 (.pointer (some (p2.add 2))) (want1 rfl (yD 16 hg1)) ?_
        obtain ⟨v2, hv4, h⟩ := h
        refine stp (v := (.int .i64 v2)) (want1 rfl (yD 16 hg1)) (x_load (a := (p2.add 2)) (by kernel_rfl) (Try.isAgg3 _) hv4) ?_
        refine st_call (want1 rfl (yD 16 hg1)) (x_callE (args := #[(.int .i64 v2)]) Try.call217 (by kernel_rfl)) (h.mono ?_)
        clear h
        rintro e w3 ⟨r1, rfl, h⟩
        refine ⟨_, rfl, ?_⟩
        refine q1 (.bool (!r1)) (want1 rfl (yD 16 hg1)) ?_
        refine q1 (.bool (!r1)) (want1 rfl (yD 16 hg1)) ?_
        rcases Bool.eq_false_or_eq_true (!r1) with hg2 | hg2
        · replace h := h.1 hg2
          refine st_not (unwant rfl (yD 21 hg2) rfl) ?_
          refine st_not (unwant rfl (yD 21 hg2) rfl) ?_
          refine st_not (unwant rfl (yD 21 hg2) rfl) ?_
          refine st_not (unwant rfl (yD 21 hg2) rfl) ?_
          refine st_not (unwant rfl (yD 21 hg2) rfl) ?_
          refine stp (v := (.bool true)) (want1 rfl (yD 16 hg1)) (x_pickT (b := (!r1)) (by kernel_rfl) hg2 (by kernel_rfl)) ?_
          refine q2 (.bool true) (x_pickT (b := v1) (by kernel_rfl) hg1 (by kernel_rfl)) ?_
          refine q0 (.bool true) ?_
          refine wpL_nil ?_
          refine th_n ?_
          refine wpE_condT (by kernel_rfl) ?_
          refine wpE_seq ?_
          refine rg ?_
          refine q0 (.int .i64 50) ?_
          refine wpL_nil ?_
          refine th_n ?_
          refine wpE_ret ?_
          refine bl_r ?_
          refine th_r ?_
          refine res1 (.inl rfl) Try.results158 (v := (.int .i64 50)) (by kernel_rfl) ?_
          exact ⟨50, rfl, h⟩
        · replace h := h.2 hg2
          refine q1 (.pointer (some (p2.add 2))) (want1 rfl (yD 21 hg2)) ?_
          obtain ⟨v3, hv3, h⟩ := h
          refine stp (v := (.int .i64 v3)) (want1 rfl (yD 21 hg2)) (x_load (a := (p2.add 2)) (by kernel_rfl) (Try.isAgg3 _) hv3) ?_
          refine q1 (.pointer (some (p2.add 1))) (want1 rfl (yD 21 hg2)) ?_
          obtain ⟨v4, hv2, h⟩ := h
          refine stp (v := (.int .i64 v4)) (want1 rfl (yD 21 hg2)) (x_load (a := (p2.add 1)) (by kernel_rfl) (Try.isAgg3 _) hv2) ?_
          refine q1 (.bool ((v3 : Int) == v4)) (want1 rfl (yD 21 hg2)) ?_
          refine stp (v := (.bool ((v3 : Int) == v4))) (want1 rfl (yD 16 hg1)) (x_pickF (b := (!r1)) (by kernel_rfl) hg2 (by kernel_rfl)) ?_
          refine q2 (.bool ((v3 : Int) == v4)) (x_pickT (b := v1) (by kernel_rfl) hg1 (by kernel_rfl)) ?_
          refine q0 (.bool ((v3 : Int) == v4)) ?_
          refine wpL_nil ?_
          refine th_n ?_
          refine wpE_cond (t := ((v3 : Int) == v4)) (by kernel_rfl) (fun hc2 => ?_) (fun hc2 => ?_)
          · replace h := h.1 hc2
            refine wpE_seq ?_
            refine rg ?_
            refine q0 (.int .i64 50) ?_
            refine wpL_nil ?_
            refine th_n ?_
            refine wpE_ret ?_
            refine bl_r ?_
            refine th_r ?_
            refine res1 (.inl rfl) Try.results158 (v := (.int .i64 50)) (by kernel_rfl) ?_
            exact ⟨50, rfl, h⟩
          · replace h := h.2 hc2
            refine wpE_seq ?_
            refine rg ?_
            refine q0 (.pointer (some (p2.add 4))) ?_
            obtain ⟨v5, hv1, h⟩ := h
            refine q2 (.string v5) (x_load (a := (p2.add 4)) (by kernel_rfl) (Try.isAgg9 _) hv1) ?_
            refine q0 (.int .i64 (v5.size : Int)) ?_
            refine q0 (.bool (decide ((v5.size : Int) > 64))) ?_
            refine q0 (.bool (decide ((v5.size : Int) > 64))) ?_
            refine wpL_nil ?_
            refine th_n ?_
            refine wpE_cond (t := (decide ((v5.size : Int) > 64))) (by kernel_rfl) (fun hc3 => ?_) (fun hc3 => ?_)
            · replace h := h.1 hc3
              refine wpE_seq ?_
              refine rg ?_
              refine q0 (.int .i64 1) ?_
              refine wpL_nil ?_
              refine th_n ?_
              refine wpE_ret ?_
              refine bl_r ?_
              refine th_r ?_
              refine res1 (.inl rfl) Try.results158 (v := (.int .i64 1)) (by kernel_rfl) ?_
              exact ⟨1, rfl, h⟩
            · replace h := h.2 hc3
              refine wpE_skip ?_
              refine bl_n ?_
              refine th_n ?_
              refine wpE_seq ?_
              refine rg ?_
              refine q0 (.int .i64 0) ?_
              refine wpL_nil ?_
              refine th_n ?_
              refine wpE_ret ?_
              refine res1 (.inl rfl) Try.results158 (v := (.int .i64 0)) (by kernel_rfl) ?_
              exact ⟨0, rfl, h⟩
      · replace h := h.2 hg1
        refine st_not (unwant rfl (yD 16 hg1) rfl) ?_
        refine st_not (unwant rfl (yD 16 hg1) rfl) ?_
        refine st_not (unwant rfl (yD 16 hg1) rfl) ?_
        refine st_not (unwant rfl (yD 16 hg1) rfl) ?_
        refine st_not (unwant rfl (yD 16 hg1) rfl) ?_
        refine st_not (by kernel_rfl) ?_
        refine st_not (by kernel_rfl) ?_
        refine st_not (by kernel_rfl) ?_
        refine st_not (by kernel_rfl) ?_
        refine st_not (by kernel_rfl) ?_
        refine st_not (unwant rfl (yD 16 hg1) rfl) ?_
        refine q2 (.bool false) (x_pickF (b := v1) (by kernel_rfl) hg1 (by kernel_rfl)) ?_
        refine q0 (.bool false) ?_
        refine wpL_nil ?_
        refine th_n ?_
        refine wpE_condF (by kernel_rfl) ?_
        refine wpE_seq ?_
        refine rg ?_
        refine q0 (.pointer (some (p2.add 4))) ?_
        obtain ⟨v6, hv5, h⟩ := h
        refine q2 (.string v6) (x_load (a := (p2.add 4)) (by kernel_rfl) (Try.isAgg9 _) hv5) ?_
        refine q0 (.int .i64 (v6.size : Int)) ?_
        refine q0 (.bool (decide ((v6.size : Int) > 64))) ?_
        refine q0 (.bool (decide ((v6.size : Int) > 64))) ?_
        refine wpL_nil ?_
        refine th_n ?_
        refine wpE_cond (t := (decide ((v6.size : Int) > 64))) (by kernel_rfl) (fun hc4 => ?_) (fun hc4 => ?_)
        · replace h := h.1 hc4
          refine wpE_seq ?_
          refine rg ?_
          refine q0 (.int .i64 1) ?_
          refine wpL_nil ?_
          refine th_n ?_
          refine wpE_ret ?_
          refine bl_r ?_
          refine th_r ?_
          refine res1 (.inl rfl) Try.results158 (v := (.int .i64 1)) (by kernel_rfl) ?_
          exact ⟨1, rfl, h⟩
        · replace h := h.2 hc4
          refine wpE_skip ?_
          refine bl_n ?_
          refine th_n ?_
          refine wpE_seq ?_
          refine rg ?_
          refine q0 (.int .i64 0) ?_
          refine wpL_nil ?_
          refine th_n ?_
          refine wpE_ret ?_
          refine res1 (.inl rfl) Try.results158 (v := (.int .i64 0)) (by kernel_rfl) ?_
          exact ⟨0, rfl, h⟩
  · skip
    refine rg ?_
    refine q0 (.pointer (some p1)) ?_
    obtain ⟨v7, hv8, h⟩ := h
    refine q2 (.bool v7) (x_load (a := p1) (by kernel_rfl) (Try.isAgg4 _) hv8) ?_
    refine q0 (.bool v7) ?_
    rcases Bool.eq_false_or_eq_true v7 with hg3 | hg3
    · replace h := h.1 hg3
      refine q1 (.pointer (some (p2.add 1))) (want1 rfl (yD 8 hg3)) ?_
      obtain ⟨v8, hv7, h⟩ := h
      refine stp (v := (.int .i64 v8)) (want1 rfl (yD 8 hg3)) (x_load (a := (p2.add 1)) (by kernel_rfl) (Try.isAgg3 _) hv7) ?_
      refine st_call (want1 rfl (yD 8 hg3)) (x_callE (args := #[(.int .i64 v8)]) Try.call217 (by kernel_rfl)) (h.mono ?_)
      clear h
      rintro e w4 ⟨r2, rfl, h⟩
      refine ⟨_, rfl, ?_⟩
      refine q1 (.bool (!r2)) (want1 rfl (yD 8 hg3)) ?_
      refine q2 (.bool (!r2)) (x_pickT (b := v7) (by kernel_rfl) hg3 (by kernel_rfl)) ?_
      refine q0 (.bool (!r2)) ?_
      refine wpL_nil ?_
      refine th_n ?_
      exact ⟨(!r2), Has.mk (by kernel_rfl), h⟩
    · replace h := h.2 hg3
      refine st_not (unwant rfl (yD 8 hg3) rfl) ?_
      refine st_not (unwant rfl (yD 8 hg3) rfl) ?_
      refine st_not (unwant rfl (yD 8 hg3) rfl) ?_
      refine st_not (unwant rfl (yD 8 hg3) rfl) ?_
      refine q2 (.bool false) (x_pickF (b := v7) (by kernel_rfl) hg3 (by kernel_rfl)) ?_
      refine q0 (.bool false) ?_
      refine wpL_nil ?_
      refine th_n ?_
      exact ⟨false, Has.mk (by kernel_rfl), h⟩

def m_term_Pool_check_l3 (p1 : Option Addr) (s1 : Sl) (size1 : Int) (depth1 : Int) (x1 : Int) (wl1 : World) (Kc3 : Int → Int → Int → World → Prop) (K : Int → Int → Int → World → Prop) : Prop :=
  Br (decide (x1 < (s1.len : Int)))
    (∃ a1 : Addr, At s1 x1 1 a1 ∧
    ∃ v4 : Int, wl1.cell? a1 = some (.int .i64 v4) ∧
    Calls Try.prog 136 #[(.pointer p1), (.int .i64 v4)] wl1 (fun e w6 => ∃ r2 : Bool, e = .returned (.bool r2) ∧ 
      Br (!r2)
        (K 0 0 51 w6)
        (Calls Try.prog 219 #[(.pointer p1), (.int .i64 v4)] w6 (fun e w7 => ∃ r3 : Int, e = .returned (.int .i64 r3) ∧ 
          Calls Try.prog 220 #[(.pointer p1), (.int .i64 v4)] w7 (fun e w8 => ∃ r4 : Int, e = .returned (.int .i64 r4) ∧ 
            ∃ z1 : Int, (Builtin.max_ #[3, 3] 3 #[(.int .i64 depth1), (.int .i64 r4)]).run Try.prog w8 = .ok (.int .i64 z1) w8 ∧
            Kc3 (IntKind.i64.wrap (size1 + r3)) z1 (IntKind.i64.wrap (x1 + 1)) w8)))))
    (Br (decide (size1 > 4096))
      (K 0 0 52 wl1)
      (Br (decide ((IntKind.i64.wrap (depth1 + 1)) > 64))
        (K 0 0 52 wl1)
        (K size1 (IntKind.i64.wrap (depth1 + 1)) 0 wl1)))
def m_term_Pool_check_j2 (p1 : Option Addr) (p2 : Addr) (p3 : Addr) (e2 : Int) (w : World) (K : Int → Int → Int → World → Prop) : Prop :=
  Br ((e2 : Int) != 0)
    (K 0 0 e2 w)
    (∃ v1 : Int, w.cell? (p2.add 5) = some (.int .i64 v1) ∧
    ∃ v2 : Int, w.cell? (p2.add 6) = some (.int .i64 v2) ∧
    ∀ (p4 : Addr) (w5 : World), New w (.cells #[(.int .i64 v1), (.int .i64 v2)] 41) p4 w5 →
    ∃ v3 : Int, w5.cell? (p3.add 4) = some (.int .i64 v3) ∧
    ∃ s1 : Sl, (Instr.sliceAt 26 (Sl.mk (some p4) 2 2).v none (some (.int .i64 v3)) none).run Try.prog w5 = .ok s1.v w5 ∧
    ∃ (I1 : Int → Int → Int → World → Prop) (mu1 : Int → Int → Int → World → Nat), I1 1 0 0 w5 ∧
      ∀ (size1 : Int) (depth1 : Int) (x1 : Int) (wl1 : World), I1 size1 depth1 x1 wl1 → m_term_Pool_check_l3 p1 s1 size1 depth1 x1 wl1 (fun y'0 y'1 y'2 w' => I1 y'0 y'1 y'2 w' ∧ mu1 y'0 y'1 y'2 w' < mu1 size1 depth1 x1 wl1) K)
def m_term_Pool_check_j1 (p1 : Option Addr) (p2 : Addr) (p3 : Addr) (e1 : Int) (w : World) (K : Int → Int → Int → World → Prop) : Prop :=
  Br ((e1 : Int) == 0)
    (∃ vfrom1 : Bool, ∃ vto1 : Bool, ∃ vnum1 : Bool, ∃ vtext1 : Bool, ∃ vkids1 : Int, Row w p3 [(.bool vfrom1), (.bool vto1), (.bool vnum1), (.bool vtext1), (.int .i64 vkids1)] ∧
    ∃ vKind2 : Int, ∃ vFrom2 : Int, ∃ vTo2 : Int, ∃ vNum2 : Int, ∃ vText2 : ByteArray, ∃ vA2 : Int, ∃ vB2 : Int, Row w p2 [(.int .i64 vKind2), (.int .i64 vFrom2), (.int .i64 vTo2), (.int .u64 vNum2), (.string vText2), (.int .i64 vA2), (.int .i64 vB2)] ∧
    Calls Try.prog 158 #[(.agg #[(.bool vfrom1), (.bool vto1), (.bool vnum1), (.bool vtext1), (.int .i64 vkids1)]), (.agg #[(.int .i64 vKind2), (.int .i64 vFrom2), (.int .i64 vTo2), (.int .u64 vNum2), (.string vText2), (.int .i64 vA2), (.int .i64 vB2)])] w (fun e w9 => ∃ r5 : Int, e = .returned (.int .i64 r5) ∧ 
      m_term_Pool_check_j2 p1 p2 p3 r5 w9 K))
    (m_term_Pool_check_j2 p1 p2 p3 e1 w K)
def m_term_Pool_check_j5 (p1 : Option Addr) (p2 : Addr) (r1 : Int) (p3 : Addr) (x2 : Bool) (x3 : Bool) (w : World) (K : Int → Int → Int → World → Prop) : Prop :=
  Br ((r1 : Int) == 0)
    (Br x2
      (m_term_Pool_check_j1 p1 p2 p3 53 w K)
      (Br x3
        (m_term_Pool_check_j1 p1 p2 p3 53 w K)
        (m_term_Pool_check_j1 p1 p2 p3 r1 w K)))
    (m_term_Pool_check_j1 p1 p2 p3 r1 w K)
def m_term_Pool_check_j4 (p1 : Option Addr) (p2 : Addr) (r1 : Int) (p3 : Addr) (x2 : Bool) (w : World) (K : Int → Int → Int → World → Prop) : Prop :=
  Br ((r1 : Int) == 0)
    (Br x2
      (m_term_Pool_check_j1 p1 p2 p3 53 w K)
      (∃ v6 : Int, w.cell? (p3.add 4) = some (.int .i64 v6) ∧
      Br (decide (v6 < 2))
        (∃ v7 : Int, w.cell? (p2.add 6) = some (.int .i64 v7) ∧
        m_term_Pool_check_j5 p1 p2 r1 p3 x2 ((v7 : Int) != 0) w K)
        (m_term_Pool_check_j5 p1 p2 r1 p3 x2 false w K)))
    (m_term_Pool_check_j1 p1 p2 p3 r1 w K)
def m_term_Pool_check (p1 : Option Addr) (nKind1 : Int) (nFrom1 : Int) (nTo1 : Int) (nNum1 : Int) (nText1 : ByteArray) (nA1 : Int) (nB1 : Int) (w : World) (K : Int → Int → Int → World → Prop) : Prop :=
  ∀ (p2 : Addr) (w1 : World), New w (.cells #[(.int .i64 nKind1), (.int .i64 nFrom1), (.int .i64 nTo1), (.int .u64 nNum1), (.string nText1), (.int .i64 nA1), (.int .i64 nB1)] 93) p2 w1 →
  ∃ vKind1 : Int, ∃ vFrom1 : Int, ∃ vTo1 : Int, ∃ vNum1 : Int, ∃ vText1 : ByteArray, ∃ vA1 : Int, ∃ vB1 : Int, Row w1 p2 [(.int .i64 vKind1), (.int .i64 vFrom1), (.int .i64 vTo1), (.int .u64 vNum1), (.string vText1), (.int .i64 vA1), (.int .i64 vB1)] ∧
  Calls Try.prog 157 #[(.agg #[(.int .i64 vKind1), (.int .i64 vFrom1), (.int .i64 vTo1), (.int .u64 vNum1), (.string vText1), (.int .i64 vA1), (.int .i64 vB1)])] w1 (fun e w2 => ∃ rfrom1 : Bool, ∃ rto1 : Bool, ∃ rnum1 : Bool, ∃ rtext1 : Bool, ∃ rkids1 : Int, ∃ r1 : Int, e = .returned (.tuple #[(.agg #[(.bool rfrom1), (.bool rto1), (.bool rnum1), (.bool rtext1), (.int .i64 rkids1)]), (.int .i64 r1)]) ∧ 
    ∀ (p3 : Addr) (w3 : World), New w2 (.cells #[(.bool false), (.bool false), (.bool false), (.bool false), (.int .i64 0)] 234) p3 w3 →
    (∀ j, j < 5 → CanW w3 (p3.add j)) ∧ ∀ w4 : World, w4 = storeRow w3 p3 [(.bool rfrom1), (.bool rto1), (.bool rnum1), (.bool rtext1), (.int .i64 rkids1)] →
    Br ((r1 : Int) == 0)
      (∃ v5 : Int, w4.cell? (p3.add 4) = some (.int .i64 v5) ∧
      Br (decide (v5 < 1))
        (∃ v8 : Int, w4.cell? (p2.add 5) = some (.int .i64 v8) ∧
        m_term_Pool_check_j4 p1 p2 r1 p3 ((v8 : Int) != 0) w4 K)
        (m_term_Pool_check_j4 p1 p2 r1 p3 false w4 K))
      (m_term_Pool_check_j1 p1 p2 p3 r1 w4 K))
set_option maxRecDepth 100000 in
set_option maxHeartbeats 4000000 in
theorem w_term_Pool_check (p1 : Option Addr) (nKind1 : Int) (nFrom1 : Int) (nTo1 : Int) (nNum1 : Int) (nText1 : ByteArray) (nA1 : Int) (nB1 : Int) (w : World) (K : Int → Int → Int → World → Prop) (h : m_term_Pool_check p1 nKind1 nFrom1 nTo1 nNum1 nText1 nA1 nB1 w K) :
    Calls Try.prog 169 #[(.pointer p1), (.agg #[(.int .i64 nKind1), (.int .i64 nFrom1), (.int .i64 nTo1), (.int .u64 nNum1), (.string nText1), (.int .i64 nA1), (.int .i64 nB1)])] w (fun e w' => ∃ r6 : Int, ∃ r7 : Int, ∃ r8 : Int, e = .returned (.tuple #[(.int .i64 r6), (.int .i64 r7), (.int .i64 r8)]) ∧ K r6 r7 r8 w') := by
  unfold m_term_Pool_check at h
  refine calls_of_wpE (args := [(.pointer p1), (.agg #[(.int .i64 nKind1), (.int .i64 nFrom1), (.int .i64 nTo1), (.int .u64 nNum1), (.string nText1), (.int .i64 nA1), (.int .i64 nB1)])]) Try.func169 rfl Try.ntmps169 (Nat.le_of_ble_eq_true rfl) ?_
  refine wpE_seq ?_
  refine rg ?_
  refine st_new (O := (.cells #[(.int .i64 nKind1), (.int .i64 nFrom1), (.int .i64 nTo1), (.int .u64 nNum1), (.string nText1), (.int .i64 nA1), (.int .i64 nB1)] 93)) (fun p => .pointer (some p)) (want0 rfl) (x_box (cs := #[(.int .i64 nKind1), (.int .i64 nFrom1), (.int .i64 nTo1), (.int .u64 nNum1), (.string nText1), (.int .i64 nA1), (.int .i64 nB1)]) (by kernel_rfl)) ?_
  intro p2 w1 hn4
  replace h := h p2 w1 hn4
  refine q0 (.int .i64 0) ?_
  refine q0 (.int .i64 0) ?_
  refine q0 (.int .i64 0) ?_
  refine wpL_nil ?_
  refine th_n ?_
  refine wpE_seq ?_
  refine rg ?_
  obtain ⟨vKind1, vFrom1, vTo1, vNum1, vText1, vA1, vB1, hv14, h⟩ := h
  refine q2 (.agg #[(.int .i64 vKind1), (.int .i64 vFrom1), (.int .i64 vTo1), (.int .u64 vNum1), (.string vText1), (.int .i64 vA1), (.int .i64 vB1)]) (x_loadA (a := p2) (vs := [(.int .i64 vKind1), (.int .i64 vFrom1), (.int .i64 vTo1), (.int .u64 vNum1), (.string vText1), (.int .i64 vA1), (.int .i64 vB1)]) (by kernel_rfl) (Try.isAgg93 _) (Try.sizeOf93 _) rfl hv14) ?_
  refine st_call (want0 rfl) (x_callE (args := #[(.agg #[(.int .i64 vKind1), (.int .i64 vFrom1), (.int .i64 vTo1), (.int .u64 vNum1), (.string vText1), (.int .i64 vA1), (.int .i64 vB1)])]) Try.call157 (by kernel_rfl)) (h.mono ?_)
  clear h
  rintro e w2 ⟨rfrom1, rto1, rnum1, rtext1, rkids1, r1, rfl, h⟩
  refine ⟨_, rfl, ?_⟩
  refine q0 (.tuple #[(.agg #[(.bool rfrom1), (.bool rto1), (.bool rnum1), (.bool rtext1), (.int .i64 rkids1)]), (.int .i64 r1)]) ?_
  refine q0 (.agg #[(.bool rfrom1), (.bool rto1), (.bool rnum1), (.bool rtext1), (.int .i64 rkids1)]) ?_
  refine q0 (.int .i64 r1) ?_
  refine st_new (O := (.cells #[(.bool false), (.bool false), (.bool false), (.bool false), (.int .i64 0)] 234)) (fun p => .pointer (some p)) (want0 rfl) (x_alloc (Try.zeroValue234 _) rfl) ?_
  intro p3 w3 hn3
  replace h := h p3 w3 hn3
  obtain ⟨hp1, h⟩ := h
  refine st_set (want0 rfl) (x_storeA (a := p3) (vs := [(.bool rfrom1), (.bool rto1), (.bool rnum1), (.bool rtext1), (.int .i64 rkids1)]) (by kernel_rfl) (by kernel_rfl) rfl (Try.sizeOf234 _) rfl hp1) ?_
  intro w4 hn1
  replace h := h w4 hn1
  refine q0 (.int .i64 r1) ?_
  refine wpL_nil ?_
  refine th_n ?_
  refine wpE_join (fun ρ w => ∃ e1 : Int, Has ρ [(0, (.pointer p1)), (3, (.pointer (some p2))), (7, (.pointer (some p3))), (8, (.int .i64 e1))] ∧ m_term_Pool_check_j1 p1 p2 p3 e1 w K) ?_ ?_
  · rintro ρ w ⟨e1, hH, h⟩
    unfold m_term_Pool_check_j1 at h
    refine wpE_has hH ?_
    clear hH
    refine wpE_join (fun ρ w => ∃ e2 : Int, Has ρ [(0, (.pointer p1)), (3, (.pointer (some p2))), (7, (.pointer (some p3))), (8, (.int .i64 e2))] ∧ m_term_Pool_check_j2 p1 p2 p3 e2 w K) ?_ ?_
    · rintro ρ w ⟨e2, hH, h⟩
      unfold m_term_Pool_check_j2 at h
      refine wpE_has hH ?_
      clear hH
      refine wpE_seq ?_
      refine wpE_seq ?_
      refine rg ?_
      refine q0 (.int .i64 e2) ?_
      refine q0 (.bool ((e2 : Int) != 0)) ?_
      refine wpL_nil ?_
      refine th_n ?_
      refine wpE_cond (t := ((e2 : Int) != 0)) (by kernel_rfl) (fun hc1 => ?_) (fun hc1 => ?_)
      · replace h := h.1 hc1
        refine wpE_seq ?_
        refine rg ?_
        refine q0 (.int .i64 e2) ?_
        refine q0 (.int .i64 0) ?_
        refine q0 (.int .i64 0) ?_
        refine q0 (.int .i64 e2) ?_
        refine wpL_nil ?_
        refine th_n ?_
        refine wpE_ret ?_
        refine th_r ?_
        refine res3 (.inl rfl) Try.results169 (v := (.int .i64 0)) (by kernel_rfl) (v' := (.int .i64 0)) (by kernel_rfl) (v'' := (.int .i64 e2)) (by kernel_rfl) ?_
        exact ⟨0, 0, e2, rfl, h⟩
      · replace h := h.2 hc1
        refine wpE_skip ?_
        refine th_n ?_
        refine wpE_seq ?_
        refine rg ?_
        refine q0 (.int .i64 1) ?_
        refine q0 (.int .i64 0) ?_
        refine wpL_nil ?_
        refine th_n ?_
        refine wpE_seq ?_
        refine wpE_seq ?_
        refine rg ?_
        refine q0 (.pointer (some (p2.add 5))) ?_
        obtain ⟨v1, hv7, h⟩ := h
        refine q2 (.int .i64 v1) (x_load (a := (p2.add 5)) (by kernel_rfl) (Try.isAgg41 _) hv7) ?_
        refine q0 (.pointer (some (p2.add 6))) ?_
        obtain ⟨v2, hv6, h⟩ := h
        refine q2 (.int .i64 v2) (x_load (a := (p2.add 6)) (by kernel_rfl) (Try.isAgg41 _) hv6) ?_
        refine st_new (O := (.cells #[(.int .i64 v1), (.int .i64 v2)] 41)) (fun p => (Sl.mk (some p) 2 2).v) (want0 rfl) (x_buildSlice (vs := #[(0, (.int .i64 v1)), (1, (.int .i64 v2))]) (by kernel_rfl) (by kernel_rfl)) ?_
        intro p4 w5 hn2
        replace h := h p4 w5 hn2
        refine q0 (.pointer (some (p3.add 4))) ?_
        obtain ⟨v3, hv5, h⟩ := h
        refine q2 (.int .i64 v3) (x_load (a := (p3.add 4)) (by kernel_rfl) (Try.isAgg3 _) hv5) ?_
        obtain ⟨s1, hv4, h⟩ := h
        refine q2 s1.v (x_slice (by kernel_rfl) (by kernel_rfl) (by kernel_rfl) (by kernel_rfl) hv4) ?_
        refine q0 (.int .i64 (s1.len : Int)) ?_
        refine q0 (.int .i64 0) ?_
        refine wpL_nil ?_
        refine th_n ?_
        refine wpE_block ?_
        obtain ⟨I1, mu1, h0, hr⟩ := h
        refine wpE_loop (σ := Int × Int × Int × World) (fun s ρ w => w = s.2.2.2 ∧ Has ρ [(0, (.pointer p1)), (9, (.int .i64 s.1)), (10, (.int .i64 s.2.1)), (55, s1.v), (56, (.int .i64 (s1.len : Int))), (57, (.int .i64 s.2.2.1))] ∧ I1 s.1 s.2.1 s.2.2.1 s.2.2.2) (fun s => mu1 s.1 s.2.1 s.2.2.1 s.2.2.2) (1, 0, 0, w5) ⟨rfl, Has.mk (by kernel_rfl), h0⟩ ?_
        rintro ⟨size1, depth1, x1, wl1⟩ ρ w ⟨hw, hH, hI⟩
        obtain rfl : wl1 = w := (show w = wl1 from hw).symm
        replace hH : Has ρ [(0, (.pointer p1)), (9, (.int .i64 size1)), (10, (.int .i64 depth1)), (55, s1.v), (56, (.int .i64 (s1.len : Int))), (57, (.int .i64 x1))] := hH
        have h := hr size1 depth1 x1 wl1 hI
        clear hr h0
        unfold m_term_Pool_check_l3 at h
        refine wpE_has hH ?_
        clear hH hI
        refine wpE_seq ?_
        refine rg ?_
        refine q0 (.bool (decide (x1 < (s1.len : Int)))) ?_
        refine wpL_nil ?_
        refine th_n ?_
        refine wpE_seq ?_
        refine wpE_cond (t := (decide (x1 < (s1.len : Int)))) (by kernel_rfl) (fun hc2 => ?_) (fun hc2 => ?_)
        · replace h := h.1 hc2
          refine wpE_skip ?_
          refine th_n ?_
          refine wpE_seq ?_
          refine wpE_block ?_
          refine wpE_seq ?_
          refine rg ?_
          obtain ⟨a1, hv3, h⟩ := h
          refine q2 (.pointer (some a1)) (x_indexAddr (s := s1) (k := .i64) (i := x1) (by kernel_rfl) (by kernel_rfl) (Try.runUnderlying26 _) (Try.sizeOf41 _) hv3) ?_
          obtain ⟨v4, hv2, h⟩ := h
          refine q2 (.int .i64 v4) (x_load (a := a1) (by kernel_rfl) (Try.isAgg41 _) hv2) ?_
          refine q0 (.int .i64 v4) ?_
          refine wpL_nil ?_
          refine th_n ?_
          refine wpE_seq ?_
          refine wpE_seq ?_
          refine rg ?_
          refine q0 (.pointer p1) ?_
          refine q0 (.int .i64 v4) ?_
          refine st_call (want0 rfl) (x_callE (args := #[(.pointer p1), (.int .i64 v4)]) Try.call136 (by kernel_rfl)) (h.mono ?_)
          clear h
          rintro e w6 ⟨r2, rfl, h⟩
          refine ⟨_, rfl, ?_⟩
          refine q0 (.bool (!r2)) ?_
          refine wpL_nil ?_
          refine th_n ?_
          refine wpE_cond (t := (!r2)) (by kernel_rfl) (fun hc3 => ?_) (fun hc3 => ?_)
          · replace h := h.1 hc3
            refine wpE_seq ?_
            refine rg ?_
            refine q0 (.int .i64 0) ?_
            refine q0 (.int .i64 0) ?_
            refine q0 (.int .i64 51) ?_
            refine wpL_nil ?_
            refine th_n ?_
            refine wpE_ret ?_
            refine th_r ?_
            refine bl_r ?_
            refine th_r ?_
            refine th_r ?_
            refine bl_r ?_
            refine th_r ?_
            refine res3 (.inl rfl) Try.results169 (v := (.int .i64 0)) (by kernel_rfl) (v' := (.int .i64 0)) (by kernel_rfl) (v'' := (.int .i64 51)) (by kernel_rfl) ?_
            exact ⟨0, 0, 51, rfl, h⟩
          · replace h := h.2 hc3
            refine wpE_skip ?_
            refine th_n ?_
            refine wpE_seq ?_
            refine rg ?_
            refine q0 (.int .i64 size1) ?_
            refine q0 (.pointer p1) ?_
            refine q0 (.int .i64 v4) ?_
            refine st_call (want0 rfl) (x_callE (args := #[(.pointer p1), (.int .i64 v4)]) Try.call219 (by kernel_rfl)) (h.mono ?_)
            clear h
            rintro e w7 ⟨r3, rfl, h⟩
            refine ⟨_, rfl, ?_⟩
            refine q0 (.int .i64 (IntKind.i64.wrap (size1 + r3))) ?_
            refine q0 (.int .i64 (IntKind.i64.wrap (size1 + r3))) ?_
            refine wpL_nil ?_
            refine th_n ?_
            refine rg ?_
            refine q0 (.int .i64 depth1) ?_
            refine q0 (.pointer p1) ?_
            refine q0 (.int .i64 v4) ?_
            refine st_call (want0 rfl) (x_callE (args := #[(.pointer p1), (.int .i64 v4)]) Try.call220 (by kernel_rfl)) (h.mono ?_)
            clear h
            rintro e w8 ⟨r4, rfl, h⟩
            refine ⟨_, rfl, ?_⟩
            obtain ⟨z1, hv1, h⟩ := h
            refine q2 (.int .i64 z1) (x_builtin (args := #[(.int .i64 depth1), (.int .i64 r4)]) (by kernel_rfl) (fun _ => rfl) hv1) ?_
            refine q0 (.int .i64 z1) ?_
            refine wpL_nil ?_
            refine bl_n ?_
            refine th_n ?_
            refine rg ?_
            refine q0 (.int .i64 (IntKind.i64.wrap (x1 + 1))) ?_
            refine q0 (.int .i64 (IntKind.i64.wrap (x1 + 1))) ?_
            refine wpL_nil ?_
            refine th_n ?_
            exact ⟨((IntKind.i64.wrap (size1 + r3)), z1, (IntKind.i64.wrap (x1 + 1)), w8), ⟨rfl, Has.mk (by kernel_rfl), h.1⟩, h.2⟩
        · replace h := h.2 hc2
          refine wpE_exit ?_
          refine th_x ?_
          refine th_x ?_
          refine bl_eq ?_
          refine th_n ?_
          refine wpE_seq ?_
          refine rg ?_
          refine q0 (.int .i64 depth1) ?_
          refine q0 (.int .i64 (IntKind.i64.wrap (depth1 + 1))) ?_
          refine q0 (.int .i64 (IntKind.i64.wrap (depth1 + 1))) ?_
          refine wpL_nil ?_
          refine th_n ?_
          refine wpE_seq ?_
          refine wpE_seq ?_
          refine rg ?_
          refine q0 (.int .i64 size1) ?_
          refine q0 (.bool (decide (size1 > 4096))) ?_
          refine q0 (.bool (decide (size1 > 4096))) ?_
          rcases Bool.eq_false_or_eq_true (decide (size1 > 4096)) with hg1 | hg1
          · replace h := h.1 hg1
            refine st_not (unwant rfl (yD 80 hg1) rfl) ?_
            refine st_not (unwant rfl (yD 80 hg1) rfl) ?_
            refine q2 (.bool true) (x_pickT (b := (decide (size1 > 4096))) (by kernel_rfl) hg1 (by kernel_rfl)) ?_
            refine wpL_nil ?_
            refine th_n ?_
            refine wpE_condT (by kernel_rfl) ?_
            refine wpE_seq ?_
            refine rg ?_
            refine q0 (.int .i64 0) ?_
            refine q0 (.int .i64 0) ?_
            refine q0 (.int .i64 52) ?_
            refine wpL_nil ?_
            refine th_n ?_
            refine wpE_ret ?_
            refine th_r ?_
            refine res3 (.inl rfl) Try.results169 (v := (.int .i64 0)) (by kernel_rfl) (v' := (.int .i64 0)) (by kernel_rfl) (v'' := (.int .i64 52)) (by kernel_rfl) ?_
            exact ⟨0, 0, 52, rfl, h⟩
          · replace h := h.2 hg1
            refine q1 (.int .i64 (IntKind.i64.wrap (depth1 + 1))) (want1 rfl (yD 80 hg1)) ?_
            refine q1 (.bool (decide ((IntKind.i64.wrap (depth1 + 1)) > 64))) (want1 rfl (yD 80 hg1)) ?_
            refine q2 (.bool (decide ((IntKind.i64.wrap (depth1 + 1)) > 64))) (x_pickF (b := (decide (size1 > 4096))) (by kernel_rfl) hg1 (by kernel_rfl)) ?_
            refine wpL_nil ?_
            refine th_n ?_
            refine wpE_cond (t := (decide ((IntKind.i64.wrap (depth1 + 1)) > 64))) (by kernel_rfl) (fun hc4 => ?_) (fun hc4 => ?_)
            · replace h := h.1 hc4
              refine wpE_seq ?_
              refine rg ?_
              refine q0 (.int .i64 0) ?_
              refine q0 (.int .i64 0) ?_
              refine q0 (.int .i64 52) ?_
              refine wpL_nil ?_
              refine th_n ?_
              refine wpE_ret ?_
              refine th_r ?_
              refine res3 (.inl rfl) Try.results169 (v := (.int .i64 0)) (by kernel_rfl) (v' := (.int .i64 0)) (by kernel_rfl) (v'' := (.int .i64 52)) (by kernel_rfl) ?_
              exact ⟨0, 0, 52, rfl, h⟩
            · replace h := h.2 hc4
              refine wpE_skip ?_
              refine th_n ?_
              refine wpE_seq ?_
              refine rg ?_
              refine q0 (.int .i64 size1) ?_
              refine q0 (.int .i64 (IntKind.i64.wrap (depth1 + 1))) ?_
              refine q0 (.int .i64 size1) ?_
              refine q0 (.int .i64 (IntKind.i64.wrap (depth1 + 1))) ?_
              refine q0 (.int .i64 0) ?_
              refine wpL_nil ?_
              refine th_n ?_
              refine wpE_ret ?_
              refine res3 (.inl rfl) Try.results169 (v := (.int .i64 size1)) (by kernel_rfl) (v' := (.int .i64 (IntKind.i64.wrap (depth1 + 1)))) (by kernel_rfl) (v'' := (.int .i64 0)) (by kernel_rfl) ?_
              exact ⟨size1, (IntKind.i64.wrap (depth1 + 1)), 0, rfl, h⟩
    · skip
      refine wpE_seq ?_
      refine rg ?_
      refine q0 (.int .i64 e1) ?_
      refine q0 (.bool ((e1 : Int) == 0)) ?_
      refine wpL_nil ?_
      refine th_n ?_
      refine wpE_cond (t := ((e1 : Int) == 0)) (by kernel_rfl) (fun hc5 => ?_) (fun hc5 => ?_)
      · replace h := h.1 hc5
        refine rg ?_
        obtain ⟨vfrom1, vto1, vnum1, vtext1, vkids1, hv9, h⟩ := h
        refine q2 (.agg #[(.bool vfrom1), (.bool vto1), (.bool vnum1), (.bool vtext1), (.int .i64 vkids1)]) (x_loadA (a := p3) (vs := [(.bool vfrom1), (.bool vto1), (.bool vnum1), (.bool vtext1), (.int .i64 vkids1)]) (by kernel_rfl) (Try.isAgg234 _) (Try.sizeOf234 _) rfl hv9) ?_
        obtain ⟨vKind2, vFrom2, vTo2, vNum2, vText2, vA2, vB2, hv8, h⟩ := h
        refine q2 (.agg #[(.int .i64 vKind2), (.int .i64 vFrom2), (.int .i64 vTo2), (.int .u64 vNum2), (.string vText2), (.int .i64 vA2), (.int .i64 vB2)]) (x_loadA (a := p2) (vs := [(.int .i64 vKind2), (.int .i64 vFrom2), (.int .i64 vTo2), (.int .u64 vNum2), (.string vText2), (.int .i64 vA2), (.int .i64 vB2)]) (by kernel_rfl) (Try.isAgg93 _) (Try.sizeOf93 _) rfl hv8) ?_
        refine st_call (want0 rfl) (x_callE (args := #[(.agg #[(.bool vfrom1), (.bool vto1), (.bool vnum1), (.bool vtext1), (.int .i64 vkids1)]), (.agg #[(.int .i64 vKind2), (.int .i64 vFrom2), (.int .i64 vTo2), (.int .u64 vNum2), (.string vText2), (.int .i64 vA2), (.int .i64 vB2)])]) Try.call158 (by kernel_rfl)) (h.mono ?_)
        clear h
        rintro e w9 ⟨r5, rfl, h⟩
        refine ⟨_, rfl, ?_⟩
        refine q0 (.int .i64 r5) ?_
        refine wpL_nil ?_
        refine th_n ?_
        exact ⟨r5, Has.mk (by kernel_rfl), h⟩
      · replace h := h.2 hc5
        refine wpE_skip ?_
        refine th_n ?_
        exact ⟨e1, Has.mk (by kernel_rfl), h⟩
  · skip
    refine wpE_seq ?_
    refine rg ?_
    refine q0 (.int .i64 r1) ?_
    refine q0 (.bool ((r1 : Int) == 0)) ?_
    refine q0 (.bool ((r1 : Int) == 0)) ?_
    rcases Bool.eq_false_or_eq_true ((r1 : Int) == 0) with hg2 | hg2
    · replace h := h.1 hg2
      refine q1 (.pointer (some (p3.add 4))) (want1 rfl (yD 20 hg2)) ?_
      obtain ⟨v5, hv13, h⟩ := h
      refine stp (v := (.int .i64 v5)) (want1 rfl (yD 20 hg2)) (x_load (a := (p3.add 4)) (by kernel_rfl) (Try.isAgg3 _) hv13) ?_
      refine q1 (.bool (decide (v5 < 1))) (want1 rfl (yD 20 hg2)) ?_
      refine q1 (.bool (decide (v5 < 1))) (want1 rfl (yD 20 hg2)) ?_
      refine wpL_join 4 (fun ρ w => ∃ x2 : Bool, Has ρ [(0, (.pointer p1)), (3, (.pointer (some p2))), (7, (.pointer (some p3))), (8, (.int .i64 r1)), (20, (.bool ((r1 : Int) == 0))), (28, (.bool x2))] ∧ m_term_Pool_check_j4 p1 p2 r1 p3 x2 w K) ?_ ?_
      · rintro ρ w ⟨x2, hH, h⟩
        unfold m_term_Pool_check_j4 at h
        refine wpL_has hH ?_
        clear hH
        rcases Bool.eq_false_or_eq_true ((r1 : Int) == 0) with hg3 | hg3
        · replace h := h.1 hg3
          refine q1 (.bool x2) (want1 rfl (yD 20 hg3)) ?_
          rcases Bool.eq_false_or_eq_true x2 with hg4 | hg4
          · replace h := h.1 hg4
            refine st_not (unwant rfl (yD 29 hg4) rfl) ?_
            refine st_not (unwant rfl (yD 29 hg4) rfl) ?_
            refine st_not (unwant rfl (yD 29 hg4) rfl) ?_
            refine st_not (unwant rfl (yD 29 hg4) rfl) ?_
            refine st_not (by kernel_rfl) ?_
            refine st_not (by kernel_rfl) ?_
            refine st_not (by kernel_rfl) ?_
            refine st_not (unwant rfl (yD 29 hg4) rfl) ?_
            refine stp (v := (.bool true)) (want1 rfl (yD 20 hg3)) (x_pickT (b := x2) (by kernel_rfl) hg4 (by kernel_rfl)) ?_
            refine q2 (.bool true) (x_pickT (b := ((r1 : Int) == 0)) (by kernel_rfl) hg3 (by kernel_rfl)) ?_
            refine wpL_nil ?_
            refine th_n ?_
            refine wpE_condT (by kernel_rfl) ?_
            refine rg ?_
            refine q0 (.int .i64 53) ?_
            refine wpL_nil ?_
            refine th_n ?_
            exact ⟨53, Has.mk (by kernel_rfl), h⟩
          · replace h := h.2 hg4
            refine q1 (.pointer (some (p3.add 4))) (want1 rfl (yD 29 hg4)) ?_
            obtain ⟨v6, hv11, h⟩ := h
            refine stp (v := (.int .i64 v6)) (want1 rfl (yD 29 hg4)) (x_load (a := (p3.add 4)) (by kernel_rfl) (Try.isAgg3 _) hv11) ?_
            refine q1 (.bool (decide (v6 < 2))) (want1 rfl (yD 29 hg4)) ?_
            refine q1 (.bool (decide (v6 < 2))) (want1 rfl (yD 29 hg4)) ?_
            refine wpL_join 4 (fun ρ w => ∃ x3 : Bool, Has ρ [(0, (.pointer p1)), (3, (.pointer (some p2))), (7, (.pointer (some p3))), (8, (.int .i64 r1)), (20, (.bool ((r1 : Int) == 0))), (29, (.bool x2)), (37, (.bool x3))] ∧ m_term_Pool_check_j5 p1 p2 r1 p3 x2 x3 w K) ?_ ?_
            · rintro ρ w ⟨x3, hH, h⟩
              unfold m_term_Pool_check_j5 at h
              refine wpL_has hH ?_
              clear hH
              rcases Bool.eq_false_or_eq_true ((r1 : Int) == 0) with hg5 | hg5
              · replace h := h.1 hg5
                rcases Bool.eq_false_or_eq_true x2 with hg6 | hg6
                · replace h := h.1 hg6
                  refine stp (v := (.bool true)) (want1 rfl (yD 20 hg5)) (x_pickT (b := x2) (by kernel_rfl) hg6 (by kernel_rfl)) ?_
                  refine q2 (.bool true) (x_pickT (b := ((r1 : Int) == 0)) (by kernel_rfl) hg5 (by kernel_rfl)) ?_
                  refine wpL_nil ?_
                  refine th_n ?_
                  refine wpE_condT (by kernel_rfl) ?_
                  refine rg ?_
                  refine q0 (.int .i64 53) ?_
                  refine wpL_nil ?_
                  refine th_n ?_
                  exact ⟨53, Has.mk (by kernel_rfl), h⟩
                · replace h := h.2 hg6
                  refine stp (v := (.bool x3)) (want1 rfl (yD 20 hg5)) (x_pickF (b := x2) (by kernel_rfl) hg6 (by kernel_rfl)) ?_
                  refine q2 (.bool x3) (x_pickT (b := ((r1 : Int) == 0)) (by kernel_rfl) hg5 (by kernel_rfl)) ?_
                  refine wpL_nil ?_
                  refine th_n ?_
                  refine wpE_cond (t := x3) (by kernel_rfl) (fun hc6 => ?_) (fun hc6 => ?_)
                  · replace h := h.1 hc6
                    refine rg ?_
                    refine q0 (.int .i64 53) ?_
                    refine wpL_nil ?_
                    refine th_n ?_
                    exact ⟨53, Has.mk (by kernel_rfl), h⟩
                  · replace h := h.2 hc6
                    refine wpE_skip ?_
                    refine th_n ?_
                    exact ⟨r1, Has.mk (by kernel_rfl), h⟩
              · replace h := h.2 hg5
                refine st_not (unwant rfl (yD 20 hg5) rfl) ?_
                refine q2 (.bool false) (x_pickF (b := ((r1 : Int) == 0)) (by kernel_rfl) hg5 (by kernel_rfl)) ?_
                refine wpL_nil ?_
                refine th_n ?_
                refine wpE_condF (by kernel_rfl) ?_
                refine wpE_skip ?_
                refine th_n ?_
                exact ⟨r1, Has.mk (by kernel_rfl), h⟩
            · skip
              rcases Bool.eq_false_or_eq_true (decide (v6 < 2)) with hg7 | hg7
              · replace h := h.1 hg7
                refine q1 (.pointer (some (p2.add 6))) (want1 rfl (yD 33 hg7)) ?_
                obtain ⟨v7, hv10, h⟩ := h
                refine stp (v := (.int .i64 v7)) (want1 rfl (yD 33 hg7)) (x_load (a := (p2.add 6)) (by kernel_rfl) (Try.isAgg41 _) hv10) ?_
                refine q1 (.bool ((v7 : Int) != 0)) (want1 rfl (yD 33 hg7)) ?_
                refine stp (v := (.bool ((v7 : Int) != 0))) (want1 rfl (yD 29 hg4)) (x_pickT (b := (decide (v6 < 2))) (by kernel_rfl) hg7 (by kernel_rfl)) ?_
                refine wpL_nil ?_
                exact ⟨((v7 : Int) != 0), Has.mk (by kernel_rfl), h⟩
              · replace h := h.2 hg7
                refine st_not (unwant rfl (yD 33 hg7) rfl) ?_
                refine st_not (unwant rfl (yD 33 hg7) rfl) ?_
                refine st_not (unwant rfl (yD 33 hg7) rfl) ?_
                refine stp (v := (.bool false)) (want1 rfl (yD 29 hg4)) (x_pickF (b := (decide (v6 < 2))) (by kernel_rfl) hg7 (by kernel_rfl)) ?_
                refine wpL_nil ?_
                exact ⟨false, Has.mk (by kernel_rfl), h⟩
        · replace h := h.2 hg3
          refine st_not (unwant rfl (yD 20 hg3) rfl) ?_
          refine st_not (by kernel_rfl) ?_
          refine st_not (by kernel_rfl) ?_
          refine st_not (by kernel_rfl) ?_
          refine st_not (by kernel_rfl) ?_
          refine st_not (by kernel_rfl) ?_
          refine st_not (by kernel_rfl) ?_
          refine st_not (by kernel_rfl) ?_
          refine st_not (by kernel_rfl) ?_
          refine st_not (unwant rfl (yD 20 hg3) rfl) ?_
          refine q2 (.bool false) (x_pickF (b := ((r1 : Int) == 0)) (by kernel_rfl) hg3 (by kernel_rfl)) ?_
          refine wpL_nil ?_
          refine th_n ?_
          refine wpE_condF (by kernel_rfl) ?_
          refine wpE_skip ?_
          refine th_n ?_
          exact ⟨r1, Has.mk (by kernel_rfl), h⟩
      · skip
        rcases Bool.eq_false_or_eq_true (decide (v5 < 1)) with hg8 | hg8
        · replace h := h.1 hg8
          refine q1 (.pointer (some (p2.add 5))) (want1 rfl (yD 24 hg8)) ?_
          obtain ⟨v8, hv12, h⟩ := h
          refine stp (v := (.int .i64 v8)) (want1 rfl (yD 24 hg8)) (x_load (a := (p2.add 5)) (by kernel_rfl) (Try.isAgg41 _) hv12) ?_
          refine q1 (.bool ((v8 : Int) != 0)) (want1 rfl (yD 24 hg8)) ?_
          refine stp (v := (.bool ((v8 : Int) != 0))) (want1 rfl (yD 20 hg2)) (x_pickT (b := (decide (v5 < 1))) (by kernel_rfl) hg8 (by kernel_rfl)) ?_
          refine wpL_nil ?_
          exact ⟨((v8 : Int) != 0), Has.mk (by kernel_rfl), h⟩
        · replace h := h.2 hg8
          refine st_not (unwant rfl (yD 24 hg8) rfl) ?_
          refine st_not (unwant rfl (yD 24 hg8) rfl) ?_
          refine st_not (unwant rfl (yD 24 hg8) rfl) ?_
          refine stp (v := (.bool false)) (want1 rfl (yD 20 hg2)) (x_pickF (b := (decide (v5 < 1))) (by kernel_rfl) hg8 (by kernel_rfl)) ?_
          refine wpL_nil ?_
          exact ⟨false, Has.mk (by kernel_rfl), h⟩
    · replace h := h.2 hg2
      refine st_not (unwant rfl (yD 20 hg2) rfl) ?_
      refine st_not (unwant rfl (yD 20 hg2) rfl) ?_
      refine st_not (unwant rfl (yD 20 hg2) rfl) ?_
      refine st_not (unwant rfl (yD 20 hg2) rfl) ?_
      refine st_not (by kernel_rfl) ?_
      refine st_not (by kernel_rfl) ?_
      refine st_not (by kernel_rfl) ?_
      refine st_not (unwant rfl (yD 20 hg2) rfl) ?_
      refine st_not (unwant rfl (yD 20 hg2) rfl) ?_
      refine st_not (by kernel_rfl) ?_
      refine st_not (by kernel_rfl) ?_
      refine st_not (by kernel_rfl) ?_
      refine st_not (by kernel_rfl) ?_
      refine st_not (by kernel_rfl) ?_
      refine st_not (by kernel_rfl) ?_
      refine st_not (by kernel_rfl) ?_
      refine st_not (by kernel_rfl) ?_
      refine st_not (unwant rfl (yD 20 hg2) rfl) ?_
      refine q2 (.bool false) (x_pickF (b := ((r1 : Int) == 0)) (by kernel_rfl) hg2 (by kernel_rfl)) ?_
      refine wpL_nil ?_
      refine th_n ?_
      refine wpE_condF (by kernel_rfl) ?_
      refine wpE_skip ?_
      refine th_n ?_
      exact ⟨r1, Has.mk (by kernel_rfl), h⟩

def m_term_shapes  (w : World) (K : (Array Value) → World → Prop) : Prop :=
  ∀ (p1 : Addr) (w1 : World), New w (.cells #[(.bool false), (.bool false), (.bool false), (.bool false), (.int .i64 0), (.bool false), (.bool false), (.bool false), (.bool false), (.int .i64 0), (.bool false), (.bool false), (.bool false), (.bool false), (.int .i64 0), (.bool false), (.bool false), (.bool false), (.bool false), (.int .i64 0), (.bool false), (.bool false), (.bool false), (.bool false), (.int .i64 0), (.bool false), (.bool false), (.bool false), (.bool false), (.int .i64 0), (.bool false), (.bool false), (.bool false), (.bool false), (.int .i64 0), (.bool false), (.bool false), (.bool false), (.bool false), (.int .i64 0), (.bool false), (.bool false), (.bool false), (.bool false), (.int .i64 0), (.bool false), (.bool false), (.bool false), (.bool false), (.int .i64 0)] 278) p1 w1 →
  (∀ j, j < 50 → CanW w1 (p1.add j)) ∧ ∀ w2 : World, w2 = storeRow w1 p1 [(.bool false), (.bool false), (.bool false), (.bool false), (.int .i64 0), (.bool true), (.bool false), (.bool false), (.bool false), (.int .i64 0), (.bool false), (.bool false), (.bool true), (.bool false), (.int .i64 0), (.bool false), (.bool false), (.bool false), (.bool true), (.int .i64 0), (.bool false), (.bool false), (.bool false), (.bool false), (.int .i64 2), (.bool false), (.bool false), (.bool false), (.bool false), (.int .i64 1), (.bool true), (.bool false), (.bool false), (.bool false), (.int .i64 0), (.bool true), (.bool false), (.bool false), (.bool false), (.int .i64 1), (.bool true), (.bool true), (.bool false), (.bool false), (.int .i64 1), (.bool true), (.bool true), (.bool false), (.bool false), (.int .i64 1)] →
  ∃ q1 : Array Value, (q1.size = 50 ∧ Row w2 p1 q1.toList) ∧
  K q1 w2
set_option maxRecDepth 100000 in
set_option maxHeartbeats 4000000 in
theorem w_term_shapes  (w : World) (K : (Array Value) → World → Prop) (h : m_term_shapes  w K) :
    Calls Try.prog 193 #[] w (fun e w' => ∃ r1 : Array Value, e = .returned (.agg r1) ∧ K r1 w') := by
  unfold m_term_shapes at h
  refine calls_of_wpE (args := []) Try.func193 rfl Try.ntmps193 (Nat.le_of_ble_eq_true rfl) ?_
  refine wpE_seq ?_
  refine rg ?_
  refine st_new (O := (.cells #[(.bool false), (.bool false), (.bool false), (.bool false), (.int .i64 0), (.bool false), (.bool false), (.bool false), (.bool false), (.int .i64 0), (.bool false), (.bool false), (.bool false), (.bool false), (.int .i64 0), (.bool false), (.bool false), (.bool false), (.bool false), (.int .i64 0), (.bool false), (.bool false), (.bool false), (.bool false), (.int .i64 0), (.bool false), (.bool false), (.bool false), (.bool false), (.int .i64 0), (.bool false), (.bool false), (.bool false), (.bool false), (.int .i64 0), (.bool false), (.bool false), (.bool false), (.bool false), (.int .i64 0), (.bool false), (.bool false), (.bool false), (.bool false), (.int .i64 0), (.bool false), (.bool false), (.bool false), (.bool false), (.int .i64 0)] 278)) (fun p => .pointer (some p)) (want0 rfl) (x_alloc (Try.zeroValue278 _) rfl) ?_
  intro p1 w1 hn2
  replace h := h p1 w1 hn2
  refine wpL_nil ?_
  refine th_n ?_
  refine wpE_seq ?_
  refine rg ?_
  refine q0 (.agg #[(.bool true), (.bool false), (.bool false), (.bool false), (.int .i64 0)]) ?_
  refine q0 (.agg #[(.bool false), (.bool false), (.bool true), (.bool false), (.int .i64 0)]) ?_
  refine q0 (.agg #[(.bool false), (.bool false), (.bool false), (.bool true), (.int .i64 0)]) ?_
  refine q0 (.agg #[(.bool false), (.bool false), (.bool false), (.bool false), (.int .i64 2)]) ?_
  refine q0 (.agg #[(.bool false), (.bool false), (.bool false), (.bool false), (.int .i64 1)]) ?_
  refine q0 (.agg #[(.bool true), (.bool false), (.bool false), (.bool false), (.int .i64 0)]) ?_
  refine q0 (.agg #[(.bool true), (.bool false), (.bool false), (.bool false), (.int .i64 1)]) ?_
  refine q0 (.agg #[(.bool true), (.bool true), (.bool false), (.bool false), (.int .i64 1)]) ?_
  refine q0 (.agg #[(.bool true), (.bool true), (.bool false), (.bool false), (.int .i64 1)]) ?_
  refine q0 (.agg #[(.bool false), (.bool false), (.bool false), (.bool false), (.int .i64 0), (.bool true), (.bool false), (.bool false), (.bool false), (.int .i64 0), (.bool false), (.bool false), (.bool true), (.bool false), (.int .i64 0), (.bool false), (.bool false), (.bool false), (.bool true), (.int .i64 0), (.bool false), (.bool false), (.bool false), (.bool false), (.int .i64 2), (.bool false), (.bool false), (.bool false), (.bool false), (.int .i64 1), (.bool true), (.bool false), (.bool false), (.bool false), (.int .i64 0), (.bool true), (.bool false), (.bool false), (.bool false), (.int .i64 1), (.bool true), (.bool true), (.bool false), (.bool false), (.int .i64 1), (.bool true), (.bool true), (.bool false), (.bool false), (.int .i64 1)]) ?_
  obtain ⟨hp1, h⟩ := h
  refine st_set (want0 rfl) (x_storeA (a := p1) (vs := [(.bool false), (.bool false), (.bool false), (.bool false), (.int .i64 0), (.bool true), (.bool false), (.bool false), (.bool false), (.int .i64 0), (.bool false), (.bool false), (.bool true), (.bool false), (.int .i64 0), (.bool false), (.bool false), (.bool false), (.bool true), (.int .i64 0), (.bool false), (.bool false), (.bool false), (.bool false), (.int .i64 2), (.bool false), (.bool false), (.bool false), (.bool false), (.int .i64 1), (.bool true), (.bool false), (.bool false), (.bool false), (.int .i64 0), (.bool true), (.bool false), (.bool false), (.bool false), (.int .i64 1), (.bool true), (.bool true), (.bool false), (.bool false), (.int .i64 1), (.bool true), (.bool true), (.bool false), (.bool false), (.int .i64 1)]) (by kernel_rfl) (by kernel_rfl) rfl (Try.sizeOf278 _) rfl hp1) ?_
  intro w2 hn1
  replace h := h w2 hn1
  refine wpL_nil ?_
  refine th_n ?_
  refine wpE_ret ?_
  obtain ⟨q1, hv1, h⟩ := h
  refine resG (.inl rfl) (rs := [.cell 0 278]) (vs := [(.agg q1)]) (v := (.agg q1)) Try.results193 ⟨(RV.cellAr (A := p1) (vs := q1) (by kernel_rfl) (Try.isAgg278 _) (Try.sizeOf278 _) hv1), trivial⟩ (by kernel_rfl) ?_
  exact ⟨q1, rfl, h⟩

def m_term_isName (n1 : Int) (w : World) (K : Bool → World → Prop) : Prop :=
  Br (decide (n1 ≥ 0))
    (K (decide (n1 < 16)) w)
    (K false w)
set_option maxRecDepth 100000 in
set_option maxHeartbeats 4000000 in
theorem w_term_isName (n1 : Int) (w : World) (K : Bool → World → Prop) (h : m_term_isName n1 w K) :
    Calls Try.prog 217 #[(.int .i64 n1)] w (fun e w' => ∃ r1 : Bool, e = .returned (.bool r1) ∧ K r1 w') := by
  unfold m_term_isName at h
  refine calls_of_wpE (args := [(.int .i64 n1)]) Try.func217 rfl Try.ntmps217 (Nat.le_of_ble_eq_true rfl) ?_
  refine wpE_seq ?_
  refine rg ?_
  refine q0 (.bool false) ?_
  refine wpL_nil ?_
  refine th_n ?_
  refine wpE_seq ?_
  refine rg ?_
  refine q0 (.int .i64 n1) ?_
  refine q0 (.bool (decide (n1 ≥ 0))) ?_
  refine q0 (.bool (decide (n1 ≥ 0))) ?_
  rcases Bool.eq_false_or_eq_true (decide (n1 ≥ 0)) with hg1 | hg1
  · replace h := h.1 hg1
    refine q1 (.int .i64 n1) (want1 rfl (yD 5 hg1)) ?_
    refine q1 (.bool (decide (n1 < 16))) (want1 rfl (yD 5 hg1)) ?_
    refine q2 (.bool (decide (n1 < 16))) (x_pickT (b := (decide (n1 ≥ 0))) (by kernel_rfl) hg1 (by kernel_rfl)) ?_
    refine q0 (.bool (decide (n1 < 16))) ?_
    refine wpL_nil ?_
    refine th_n ?_
    refine wpE_ret ?_
    refine res1 (.inl rfl) Try.results217 (v := (.bool (decide (n1 < 16)))) (by kernel_rfl) ?_
    exact ⟨(decide (n1 < 16)), rfl, h⟩
  · replace h := h.2 hg1
    refine st_not (unwant rfl (yD 5 hg1) rfl) ?_
    refine st_not (unwant rfl (yD 5 hg1) rfl) ?_
    refine q2 (.bool false) (x_pickF (b := (decide (n1 ≥ 0))) (by kernel_rfl) hg1 (by kernel_rfl)) ?_
    refine q0 (.bool false) ?_
    refine wpL_nil ?_
    refine th_n ?_
    refine wpE_ret ?_
    refine res1 (.inl rfl) Try.results217 (v := (.bool false)) (by kernel_rfl) ?_
    exact ⟨false, rfl, h⟩

def m_term_Pool_Size (p1 : Option Addr) (t1 : Int) (w : World) (K : Int → World → Prop) : Prop :=
  Calls Try.prog 136 #[(.pointer p1), (.int .i64 t1)] w (fun e w1 => ∃ r1 : Bool, e = .returned (.bool r1) ∧ 
    Br (!r1)
      (K 0 w1)
      (∃ a1 : Addr, p1 = some a1 ∧
      ∃ v1 : Sl, w1.cell? a1 = some v1.v ∧
      ∃ a2 : Addr, At v1 (IntKind.i64.wrap (t1 - 1)) 9 a2 ∧
      ∃ v2 : Int, w1.cell? (a2.add 7) = some (.int .i64 v2) ∧
      K v2 w1))
set_option maxRecDepth 100000 in
set_option maxHeartbeats 4000000 in
theorem w_term_Pool_Size (p1 : Option Addr) (t1 : Int) (w : World) (K : Int → World → Prop) (h : m_term_Pool_Size p1 t1 w K) :
    Calls Try.prog 219 #[(.pointer p1), (.int .i64 t1)] w (fun e w' => ∃ r2 : Int, e = .returned (.int .i64 r2) ∧ K r2 w') := by
  unfold m_term_Pool_Size at h
  refine calls_of_wpE (args := [(.pointer p1), (.int .i64 t1)]) Try.func219 rfl Try.ntmps219 (Nat.le_of_ble_eq_true rfl) ?_
  refine wpE_seq ?_
  refine rg ?_
  refine q0 (.int .i64 0) ?_
  refine wpL_nil ?_
  refine th_n ?_
  refine wpE_seq ?_
  refine wpE_seq ?_
  refine rg ?_
  refine q0 (.pointer p1) ?_
  refine q0 (.int .i64 t1) ?_
  refine st_call (want0 rfl) (x_callE (args := #[(.pointer p1), (.int .i64 t1)]) Try.call136 (by kernel_rfl)) (h.mono ?_)
  clear h
  rintro e w1 ⟨r1, rfl, h⟩
  refine ⟨_, rfl, ?_⟩
  refine q0 (.bool (!r1)) ?_
  refine wpL_nil ?_
  refine th_n ?_
  refine wpE_cond (t := (!r1)) (by kernel_rfl) (fun hc1 => ?_) (fun hc1 => ?_)
  · replace h := h.1 hc1
    refine wpE_seq ?_
    refine rg ?_
    refine q0 (.int .i64 0) ?_
    refine wpL_nil ?_
    refine th_n ?_
    refine wpE_ret ?_
    refine th_r ?_
    refine res1 (.inl rfl) Try.results219 (v := (.int .i64 0)) (by kernel_rfl) ?_
    exact ⟨0, rfl, h⟩
  · replace h := h.2 hc1
    refine wpE_skip ?_
    refine th_n ?_
    refine wpE_seq ?_
    refine rg ?_
    refine q0 (.pointer p1) ?_
    obtain ⟨a1, hp1, h⟩ := h
    refine q2 (.pointer (some a1)) (x_nilCheck (p := p1) (by kernel_rfl) hp1) ?_
    refine q0 (.pointer (some a1)) ?_
    obtain ⟨v1, hv3, h⟩ := h
    refine q2 v1.v (x_load (a := a1) (by kernel_rfl) (Try.isAgg180 _) hv3) ?_
    refine q0 (.int .i64 t1) ?_
    refine q0 (.int .i64 (IntKind.i64.wrap (t1 - 1))) ?_
    obtain ⟨a2, hv2, h⟩ := h
    refine q2 (.pointer (some a2)) (x_indexAddr (s := v1) (k := .i64) (i := (IntKind.i64.wrap (t1 - 1))) (by kernel_rfl) (by kernel_rfl) (Try.runUnderlying180 _) (Try.sizeOf213 _) hv2) ?_
    refine q0 (.pointer (some (a2.add 7))) ?_
    obtain ⟨v2, hv1, h⟩ := h
    refine q2 (.int .i64 v2) (x_load (a := (a2.add 7)) (by kernel_rfl) (Try.isAgg3 _) hv1) ?_
    refine q0 (.int .i64 v2) ?_
    refine wpL_nil ?_
    refine th_n ?_
    refine wpE_ret ?_
    refine res1 (.inl rfl) Try.results219 (v := (.int .i64 v2)) (by kernel_rfl) ?_
    exact ⟨v2, rfl, h⟩

def m_term_Pool_Depth (p1 : Option Addr) (t1 : Int) (w : World) (K : Int → World → Prop) : Prop :=
  Calls Try.prog 136 #[(.pointer p1), (.int .i64 t1)] w (fun e w1 => ∃ r1 : Bool, e = .returned (.bool r1) ∧ 
    Br (!r1)
      (K 0 w1)
      (∃ a1 : Addr, p1 = some a1 ∧
      ∃ v1 : Sl, w1.cell? a1 = some v1.v ∧
      ∃ a2 : Addr, At v1 (IntKind.i64.wrap (t1 - 1)) 9 a2 ∧
      ∃ v2 : Int, w1.cell? (a2.add 8) = some (.int .i64 v2) ∧
      K v2 w1))
set_option maxRecDepth 100000 in
set_option maxHeartbeats 4000000 in
theorem w_term_Pool_Depth (p1 : Option Addr) (t1 : Int) (w : World) (K : Int → World → Prop) (h : m_term_Pool_Depth p1 t1 w K) :
    Calls Try.prog 220 #[(.pointer p1), (.int .i64 t1)] w (fun e w' => ∃ r2 : Int, e = .returned (.int .i64 r2) ∧ K r2 w') := by
  unfold m_term_Pool_Depth at h
  refine calls_of_wpE (args := [(.pointer p1), (.int .i64 t1)]) Try.func220 rfl Try.ntmps220 (Nat.le_of_ble_eq_true rfl) ?_
  refine wpE_seq ?_
  refine rg ?_
  refine q0 (.int .i64 0) ?_
  refine wpL_nil ?_
  refine th_n ?_
  refine wpE_seq ?_
  refine wpE_seq ?_
  refine rg ?_
  refine q0 (.pointer p1) ?_
  refine q0 (.int .i64 t1) ?_
  refine st_call (want0 rfl) (x_callE (args := #[(.pointer p1), (.int .i64 t1)]) Try.call136 (by kernel_rfl)) (h.mono ?_)
  clear h
  rintro e w1 ⟨r1, rfl, h⟩
  refine ⟨_, rfl, ?_⟩
  refine q0 (.bool (!r1)) ?_
  refine wpL_nil ?_
  refine th_n ?_
  refine wpE_cond (t := (!r1)) (by kernel_rfl) (fun hc1 => ?_) (fun hc1 => ?_)
  · replace h := h.1 hc1
    refine wpE_seq ?_
    refine rg ?_
    refine q0 (.int .i64 0) ?_
    refine wpL_nil ?_
    refine th_n ?_
    refine wpE_ret ?_
    refine th_r ?_
    refine res1 (.inl rfl) Try.results220 (v := (.int .i64 0)) (by kernel_rfl) ?_
    exact ⟨0, rfl, h⟩
  · replace h := h.2 hc1
    refine wpE_skip ?_
    refine th_n ?_
    refine wpE_seq ?_
    refine rg ?_
    refine q0 (.pointer p1) ?_
    obtain ⟨a1, hp1, h⟩ := h
    refine q2 (.pointer (some a1)) (x_nilCheck (p := p1) (by kernel_rfl) hp1) ?_
    refine q0 (.pointer (some a1)) ?_
    obtain ⟨v1, hv3, h⟩ := h
    refine q2 v1.v (x_load (a := a1) (by kernel_rfl) (Try.isAgg180 _) hv3) ?_
    refine q0 (.int .i64 t1) ?_
    refine q0 (.int .i64 (IntKind.i64.wrap (t1 - 1))) ?_
    obtain ⟨a2, hv2, h⟩ := h
    refine q2 (.pointer (some a2)) (x_indexAddr (s := v1) (k := .i64) (i := (IntKind.i64.wrap (t1 - 1))) (by kernel_rfl) (by kernel_rfl) (Try.runUnderlying180 _) (Try.sizeOf213 _) hv2) ?_
    refine q0 (.pointer (some (a2.add 8))) ?_
    obtain ⟨v2, hv1, h⟩ := h
    refine q2 (.int .i64 v2) (x_load (a := (a2.add 8)) (by kernel_rfl) (Try.isAgg3 _) hv1) ?_
    refine q0 (.int .i64 v2) ?_
    refine wpL_nil ?_
    refine th_n ?_
    refine wpE_ret ?_
    refine res1 (.inl rfl) Try.results220 (v := (.int .i64 v2)) (by kernel_rfl) ?_
    exact ⟨v2, rfl, h⟩
end Go.Proofs
