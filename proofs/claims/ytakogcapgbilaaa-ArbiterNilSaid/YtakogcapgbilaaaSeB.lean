/- Symbolic execution, part B: a frame as a function from slots to values; the rules for code. -/
import Derived.Test.YtakogcapgbilaaaSeA
import Derived.Tactics
import Derived.Scope
namespace Go.SE

abbrev Env := Nat → Value
def upd (ρ : Env) (d : Nat) (v : Value) : Env := fun i => if i = d then v else ρ i
def put (ρ : Env) (d : Option Nat) (v : Value) : Env := match d with | some d => upd ρ d v | none => ρ
def evE (ρ : Env) : Operand → Value
  | .tmp t => ρ t
  | .const v => v
  | .global g => .pointer (some ⟨g, 0, none⟩)
  | .func f => .func (.func f) #[] #[]
def argsE (l : List Value) : Env := fun i => l.getD i undef

structure Rep (n : Nat) (ρ : Env) (a : Act) : Prop where
  defers : a.defers = []
  size : a.tmps.size = n
  get : ∀ t, a.tmps.getD t undef = ρ t

theorem Rep.eval {n : Nat} {ρ : Env} {a : Act} (h : Rep n ρ a) : a.eval = evE ρ := by
  funext x
  cases x with
  | tmp t => exact h.get t
  | _ => rfl

theorem Rep.put {n : Nat} {ρ : Env} {a : Act} (h : Rep n ρ a) {d : Option Nat} (hd : ∀ k, d = some k → k < n) (v : Value) : Rep n (SE.put ρ d v) (a.put d v) := by
  cases d with
  | none => exact h
  | some k =>
    refine ⟨h.defers, by simp [Act.put, h.size], fun t => ?_⟩
    have hk := hd k rfl
    simp only [Act.put, SE.put, upd]
    by_cases ht : t = k
    · subst ht; simp [h.size, hk]
    · rw [if_neg ht, ← h.get t]; simp [Array.getElem?_setIfInBounds_ne (Ne.symm ht)]

def yieldedE (ops : Array Oper) (ρ : Env) (j : Nat) : Option Bool :=
  match (ops[j]?).bind (·.dst) with
  | some d => match ρ d with | .bool b => some b | _ => none
  | none => none

theorem Rep.yielded {n : Nat} {ρ : Env} {a : Act} (h : Rep n ρ a) (ops : Array Oper) : yielded ops a.tmps = yieldedE ops ρ := by
  funext j
  unfold Go.yielded yieldedE
  cases (ops[j]?).bind (·.dst) with
  | none => rfl
  | some d =>
    simp only [Option.bind_some]
    have := h.get d
    rw [Array.getD_eq_getD_getElem?] at this
    cases hd : a.tmps[d]? with
    | none => rw [hd] at this; simp only [Option.getD_none] at this; rw [← this]; rfl
    | some v => rw [hd] at this; simp only [Option.getD_some] at this; rw [← this]; cases v <;> rfl

/-- What is asked of the code's end, over frames. -/
def lift (n : Nat) (Q : Exit → Env → World → Prop) : Exit → Act → World → Prop := fun e a w => ∃ ρ, Rep n ρ a ∧ Q e ρ w

def wpE (P : Program) (n : Nat) (c : Code) (Q : Exit → Env → World → Prop) (ρ : Env) (w : World) : Prop := ∀ a, Rep n ρ a → c.wp P (lift n Q) a w

def thenE (next : Env → World → Prop) (Q : Exit → Env → World → Prop) : Exit → Env → World → Prop
  | .normal, ρ, w => next ρ w
  | e, ρ, w => Q e ρ w
def blockE (id : Nat) (Q : Exit → Env → World → Prop) : Exit → Env → World → Prop
  | .exit id', ρ, w => if id' = id then Q .normal ρ w else Q (.exit id') ρ w
  | e, ρ, w => Q e ρ w

section
variable {P : Program} {n : Nat} {Q : Exit → Env → World → Prop} {ρ : Env} {w : World}

theorem wpE_mono {c : Code} {Q' : Exit → Env → World → Prop} (hq : ∀ e ρ w, Q e ρ w → Q' e ρ w) (h : wpE P n c Q ρ w) : wpE P n c Q' ρ w :=
  fun a ha => Code.wp_mono (fun _ _ _ ⟨ρ', hr, hq'⟩ => ⟨ρ', hr, hq _ _ _ hq'⟩) (h a ha)

theorem wpE_skip (h : Q .normal ρ w) : wpE P n .skip Q ρ w := fun _ ha => wp_skip ⟨ρ, ha, h⟩
theorem wpE_ret (h : Q .ret ρ w) : wpE P n .ret Q ρ w := fun _ ha => wp_ret ⟨ρ, ha, h⟩
theorem wpE_exit {id : Nat} (h : Q (.exit id) ρ w) : wpE P n (.exit id) Q ρ w := fun _ ha => wp_exit ⟨ρ, ha, h⟩
theorem wpE_label {l : Nat} (h : Q .normal ρ w) : wpE P n (.label l) Q ρ w := fun _ ha => wp_label ⟨ρ, ha, h⟩
theorem wpE_seq {x y : Code} (h : wpE P n x (thenE (fun ρ w => wpE P n y Q ρ w) Q) ρ w) : wpE P n (.seq x y) Q ρ w := fun a ha =>
  wp_seq (Code.wp_mono (fun e a w ⟨ρ', hr, hq⟩ => by
    cases e with
    | normal => exact hq a hr
    | _ => exact ⟨ρ', hr, hq⟩) (h a ha))
/-- A place where ways meet: what holds there. -/
theorem wpE_join {x y : Code} (J : Env → World → Prop) (hy : ∀ ρ w, J ρ w → wpE P n y Q ρ w) (h : wpE P n x (thenE J Q) ρ w) : wpE P n (.seq x y) Q ρ w :=
  wpE_seq (wpE_mono (fun e ρ w hq => by cases e <;> first | exact hy _ _ hq | exact hq) h)
theorem wpE_cond {c : Operand} {x y : Code} {t : Bool} (hc : evE ρ c = .bool t) (ht : t = true → wpE P n x Q ρ w) (hf : t = false → wpE P n y Q ρ w) : wpE P n (.cond c x y) Q ρ w :=
  fun a ha => wp_cond_split (by rw [ha.eval]; exact hc) (fun h => ht h a ha) (fun h => hf h a ha)
theorem wpE_condT {c : Operand} {x y : Code} (hc : evE ρ c = .bool true) (h : wpE P n x Q ρ w) : wpE P n (.cond c x y) Q ρ w :=
  fun a ha => wp_cond_true (by rw [ha.eval]; exact hc) (h a ha)
theorem wpE_condF {c : Operand} {x y : Code} (hc : evE ρ c = .bool false) (h : wpE P n y Q ρ w) : wpE P n (.cond c x y) Q ρ w :=
  fun a ha => wp_cond_false (by rw [ha.eval]; exact hc) (h a ha)
theorem wpE_block {id : Nat} {c : Code} (h : wpE P n c (blockE id Q) ρ w) : wpE P n (.block id c) Q ρ w := fun a ha =>
  wp_block (Code.wp_mono (fun e a w ⟨ρ', hr, hq⟩ => by
    cases e with
    | exit id' =>
      simp only [blockE] at hq
      simp only [Exit.inBlock]
      split
      · rename_i h; rw [if_pos h] at hq; exact ⟨ρ', hr, hq⟩
      · rename_i h; rw [if_neg h] at hq; exact ⟨ρ', hr, hq⟩
    | _ => exact ⟨ρ', hr, hq⟩) (h a ha))
theorem wpE_scope {c : Code} (hQ : ∀ l ρ w, ¬ Q (.goto l) ρ w) (h : wpE P n c Q ρ w) : wpE P n (.scope c) Q ρ w := fun a ha =>
  wp_scope_straight (Code.wp_mono (fun e a w ⟨ρ', hr, hq⟩ => by
    cases e with
    | goto l => exact (hQ l ρ' w hq).elim
    | _ => exact ⟨ρ', hr, hq⟩) (h a ha))
/-- A loop, its state in hand: I is what holds at each round's head, μ goes down. -/
theorem wpE_loop {c : Code} {σ : Type} (I : σ → Env → World → Prop) (μ : σ → Nat) (s0 : σ) (h0 : I s0 ρ w)
    (round : ∀ s ρ w, I s ρ w → wpE P n c (thenE (fun ρ' w' => ∃ s', I s' ρ' w' ∧ μ s' < μ s) Q) ρ w) : wpE P n (.loop c) Q ρ w := by
  intro a ha b k cs
  have key : ∀ m s ρ a w, μ s = m → Rep n ρ a → I s ρ w → ∃ e a' w', lift n Q e a' w' ∧ Arrives P (lone (b.at a (.code c :: .inLoop c :: k)) cs w) b k cs e a' w' := by
    intro m
    induction m using Nat.strongRecOn with
    | _ m ih =>
      intro s ρ a w hm hr hI
      obtain ⟨e, a1, w1, ⟨ρ1, hr1, hq⟩, harr⟩ := round s ρ w hI a hr b (.inLoop c :: k) cs
      cases e with
      | normal =>
        obtain ⟨s', hI', hlt⟩ := hq
        obtain ⟨e2, a2, w2, hq2, harr2⟩ := ih (μ s') (hm ▸ hlt) s' ρ1 a1 w1 rfl hr1 hI'
        exact ⟨e2, a2, w2, hq2, .of_steps (Steps.trans harr (.one step_inLoop)) harr2⟩
      | exit id => exact ⟨_, a1, w1, ⟨ρ1, hr1, hq⟩, .pass (x := .inLoop c) rfl (fun _ _ => .inl (by simp)) harr⟩
      | goto l => exact ⟨_, a1, w1, ⟨ρ1, hr1, hq⟩, .pass (x := .inLoop c) rfl (fun _ _ => .inl (by simp)) harr⟩
      | ret => exact ⟨_, a1, w1, ⟨ρ1, hr1, hq⟩, .pass (x := .inLoop c) rfl (fun _ _ => .inl (by simp)) harr⟩
      | panic ch => exact ⟨_, a1, w1, ⟨ρ1, hr1, hq⟩, .pass (x := .inLoop c) rfl (fun _ _ => .inl (by simp)) harr⟩
      | outgrown => exact ⟨_, a1, w1, ⟨ρ1, hr1, hq⟩, .pass (x := .inLoop c) rfl (fun _ _ => .inl (by simp)) harr⟩
  obtain ⟨e, a', w', hq, harr⟩ := key _ s0 ρ a w rfl ha h0
  exact ⟨e, a', w', hq, .of_steps (.one step_loop) harr⟩

/-- The operations of a region, one behind the other. -/
def wpL (P : Program) (ops : Array Oper) (Q : Env → World → Prop) : List Oper → Env → World → Prop
  | [], ρ, w => Q ρ w
  | o :: rest, ρ, w =>
    if Region.wanted o (yieldedE ops ρ) then yld P o (evE ρ) w (fun v w' => wpL P ops Q rest (put ρ o.dst v) w')
    else wpL P ops Q rest (put ρ o.dst undef) w

def dstsIn (n : Nat) (l : List Oper) : Bool := l.all fun o => match o.dst with | some d => d < n | none => true

theorem dstsIn_cons {o : Oper} {l : List Oper} (h : dstsIn n (o :: l) = true) : (∀ k, o.dst = some k → k < n) ∧ dstsIn n l = true := by
  simp only [dstsIn, List.all_cons, Bool.and_eq_true] at h
  refine ⟨fun k hk => ?_, h.2⟩
  have := h.1
  rw [hk] at this
  simpa using this

theorem wpList_of_wpL {ops : Array Oper} {Q' : Env → World → Prop} (hQ : ∀ ρ a w, Rep n ρ a → Q' ρ w → lift n Q .normal a w) : ∀ (l : List Oper) (ρ : Env) (a : Act) (w : World), dstsIn n l = true → Rep n ρ a → wpL P ops Q' l ρ w → wpList P ops (lift n Q) l a w
  | [], ρ, a, w, _, hr, h => hQ _ _ _ hr h
  | o :: l, ρ, a, w, hd, hr, h => by
    obtain ⟨hk, hd'⟩ := dstsIn_cons hd
    unfold wpL at h
    unfold wpList
    rw [hr.yielded]
    split
    · rename_i hw
      rw [if_pos hw] at h
      left
      apply wp_of_yld
      rw [hr.eval]
      exact yld_mono h fun v w' hh => wpList_of_wpL hQ l _ _ _ hd' (hr.put hk v) hh
    · rename_i hw
      rw [if_neg hw] at h
      exact wpList_of_wpL hQ l _ _ _ hd' (hr.put hk undef) h

theorem wpE_region {id : Nat} {l : List Oper} (hd : dstsIn n l = true) (h : wpL P l.toArray (fun ρ w => Q .normal ρ w) l ρ w) : wpE P n (.region id l.toArray false) Q ρ w := fun a ha =>
  wp_region_lit (wpList_of_wpL (fun ρ' _ _ hr hq => ⟨ρ', hr, hq⟩) l ρ a w hd ha h)

def opE (P : Program) (ops : Array Oper) (C : World → Prop) (loud free : Nat → Bool) (i : Nat) (K : Env → World → Prop) (ρ : Env) (w : World) : Prop :=
  match ops[i]? with
  | none => K ρ w
  | some o =>
    if Region.wanted o (yieldedE ops ρ) then
      (if loud i then yld P o (evE ρ) w (fun v w' => (free i = true ∨ C w') ∧ K (put ρ o.dst v) w')
       else ∃ v, (∀ w', C w' → qy P o (evE ρ) w' v) ∧ K (put ρ o.dst v) w)
    else K (put ρ o.dst undef) w

/-- The walk of a region that draws its order. -/
def wpX (P : Program) (ops : Array Oper) (C : World → Prop) (loud free : Nat → Bool) (Q : Env → World → Prop) : Nat → Array Bool → Env → World → Prop
  | 0, listed, ρ, w => Region.ready .any ops listed = [] ∧ Q ρ w
  | fuel + 1, listed, ρ, w =>
    (∃ i, i ∈ Region.ready .any ops listed ∧ loud i = false ∧ Region.free .any ops listed i = true ∧ opE P ops C loud free i (wpX P ops C loud free Q fuel (listed.setIfInBounds i true)) ρ w) ∨
    ((Region.ready .any ops listed = [] → Q ρ w) ∧ ∀ i ∈ Region.ready .any ops listed, opE P ops C loud free i (wpX P ops C loud free Q fuel (listed.setIfInBounds i true)) ρ w)

theorem opM_of_opE {ops : Array Oper} {C : World → Prop} {loud free : Nat → Bool} {i : Nat} {K : Env → World → Prop} {K' : Act → World → Prop} (hK : ∀ ρ a w, Rep n ρ a → K ρ w → K' a w) (hd : ∀ o, ops[i]? = some o → ∀ k, o.dst = some k → k < n) {a : Act} (hr : Rep n ρ a) (h : opE P ops C loud free i K ρ w) : opM P ops C loud free i K' a w := by
  unfold opE at h
  unfold opM
  cases ho : ops[i]? with
  | none => rw [ho] at h; exact hK _ _ _ hr h
  | some o =>
    rw [ho] at h
    have hk := hd o ho
    simp only at h ⊢
    rw [hr.yielded]
    split
    · rename_i hw
      rw [if_pos hw] at h
      rw [hr.eval]
      split
      · rename_i hl
        rw [if_pos hl] at h
        exact yld_mono h fun v w' ⟨hc, hh⟩ => ⟨hc, hK _ _ _ (hr.put hk v) hh⟩
      · rename_i hl
        rw [if_neg hl] at h
        obtain ⟨v, h1, h2⟩ := h
        exact ⟨v, h1, hK _ _ _ (hr.put hk v) h2⟩
    · rename_i hw
      rw [if_neg hw] at h
      exact hK _ _ _ (hr.put hk undef) h

theorem wpSch_of_wpX {ops : Array Oper} {C : World → Prop} {loud free : Nat → Bool} {Q' : Env → World → Prop} {Q'' : Act → World → Prop} (hQ : ∀ ρ a w, Rep n ρ a → Q' ρ w → Q'' a w) (hd : ∀ (i : Nat) (o : Oper), ops[i]? = some o → ∀ k, o.dst = some k → k < n) : ∀ (fuel : Nat) (listed : Array Bool) (ρ : Env) (a : Act) (w : World), Rep n ρ a → wpX P ops C loud free Q' fuel listed ρ w → wpSch P .any ops C loud free Q'' fuel listed a w
  | 0, _, _, _, _, hr, h => ⟨h.1, hQ _ _ _ hr h.2⟩
  | fuel + 1, listed, ρ, a, w, hr, h => by
    rcases h with ⟨i, h1, h2, h3, h4⟩ | ⟨h0, h⟩
    · exact .inl ⟨i, h1, h2, h3, opM_of_opE (fun ρ a w hr h => wpSch_of_wpX hQ hd fuel _ ρ a w hr h) (hd i) hr h4⟩
    · exact .inr ⟨fun e => hQ _ _ _ hr (h0 e), fun i hi => opM_of_opE (fun ρ a w hr h => wpSch_of_wpX hQ hd fuel _ ρ a w hr h) (hd i) hr (h i hi)⟩

def loudIn (l : List Nat) (k : Nat) : Bool := l.contains k

theorem dstsIn_get {l : List Oper} (h : dstsIn n l = true) (i : Nat) (o : Oper) (ho : l.toArray[i]? = some o) (k : Nat) (hk : o.dst = some k) : k < n := by
  have hm : o ∈ l := by
    have : l[i]? = some o := by simpa using ho
    exact List.mem_of_getElem? this
  have := (List.all_eq_true.1 h) o hm
  rw [hk] at this
  simpa using this

/-- A region that draws its order: C is what each loud operation keeps, and what the others' values hang on. -/
theorem wpE_drawn {id : Nat} {l : List Oper} (C : World → Prop) (loud free : List Nat) (hm : P.follows .mixedOrders = true) (hd : dstsIn n l = true) (hB : Region.noSelect l.toArray = true) (hg : goodB .any l.toArray (loudIn loud) (loudIn free) = true)
    (hC : C { w with drawn := w.drawn + 1 })
    (h : wpX P l.toArray C (loudIn loud) (loudIn free) (fun ρ w => Q .normal ρ w) l.toArray.size (Array.replicate l.toArray.size false) ρ { w with drawn := w.drawn + 1 }) : wpE P n (.region id l.toArray true) Q ρ w := fun a ha =>
  wp_region_sch C (loudIn loud) (loudIn free) hm hB hg hC (wpSch_of_wpX (fun ρ' _ _ hr hq => ⟨ρ', hr, hq⟩) (dstsIn_get hd) _ _ ρ a _ ha h)

/-- What a body must come to. -/
def bodyE (P : Program) (fn : Func) (n : Nat) (R : Ending → World → Prop) : Exit → Env → World → Prop
  | .normal, ρ, w | .ret, ρ, w => ∃ v, (∀ a, Rep n ρ a → (results fn a.tmps).run P w = .ok v w) ∧ R (.returned v) w
  | _, _, _ => False

theorem rep_args {n : Nat} (args : List Value) (hn : args.length ≤ n) : Rep n (argsE args) { tmps := args.toArray ++ Array.replicate (n - args.toArray.size) undef, defers := [] } := by
  refine ⟨rfl, by simp; omega, fun t => ?_⟩
  simp only [argsE, Array.getD_eq_getD_getElem?, List.getD_eq_getElem?_getD]
  by_cases h : t < args.length
  · rw [Array.getElem?_append_left (by simpa using h)]; simp
  · rw [Array.getElem?_append_right (by simpa using h)]
    simp only [Array.getElem?_replicate]
    have : args[t]? = none := by simpa using h
    rw [this]
    split <;> simp

theorem calls_of_wpE {f : FuncId} {fn : Func} {c : Code} {args : List Value} {R : Ending → World → Prop} (hf : P.funcs[f]? = some fn) (hb : fn.body = some c) (hn : fn.ntmps = n) (hl : args.length ≤ n)
    (h : wpE P n c (bodyE P fn n R) (argsE args) w) : Calls P f args.toArray w R := by
  subst hn
  refine calls_of_wp hf hb ?_
  refine Code.wp_mono ?_ (h _ (rep_args args hl))
  rintro e a w' ⟨ρ', hr, hq⟩
  cases e with
  | normal => obtain ⟨v, hv, hR⟩ := hq; exact ⟨hr.defers, v, hv a hr, hR⟩
  | ret => obtain ⟨v, hv, hR⟩ := hq; exact ⟨hr.defers, v, hv a hr, hR⟩
  | exit _ => exact hq.elim
  | goto _ => exact hq.elim
  | panic _ => exact hq.elim
  | outgrown => exact hq.elim

theorem res1 {fn : Func} {t : Nat} {v : Value} {R : Ending → World → Prop} {e : Exit} (he : e = .ret ∨ e = .normal) (hr : fn.results = #[.tmp t]) (hv : ρ t = v) (h : R (.returned v) w) : bodyE P fn n R e ρ w := by
  rcases he with rfl | rfl <;> exact ⟨v, fun a ha => by rw [results_tmp hr, ha.get, hv], h⟩
theorem res0 {fn : Func} {R : Ending → World → Prop} {e : Exit} (he : e = .ret ∨ e = .normal) (hr : fn.results = #[]) (h : R (.returned (.tuple #[])) w) : bodyE P fn n R e ρ w := by
  rcases he with rfl | rfl <;> exact ⟨_, fun a _ => by rw [results_none hr], h⟩
theorem res2 {fn : Func} {t u : Nat} {v v' : Value} {R : Ending → World → Prop} {e : Exit} (he : e = .ret ∨ e = .normal) (hr : fn.results = #[.tmp t, .tmp u]) (hv : ρ t = v) (hv' : ρ u = v') (h : R (.returned (.tuple #[v, v'])) w) : bodyE P fn n R e ρ w := by
  rcases he with rfl | rfl <;> exact ⟨_, fun a ha => by rw [results_tmp2 hr, ha.get, ha.get, hv, hv'], h⟩
theorem results_tmps {fn : Func} {ts : List Nat} (hr : fn.results = (ts.map ResultVar.tmp).toArray) (tmps : Array Value) (hts : ts.length ≠ 1) : (results fn tmps).run P w = .ok (.tuple (ts.map fun t => tmps.getD t undef).toArray) w := by
  have key : ∀ (f : ResultVar → Sem Value), (∀ t, f (.tmp t) = pure (tmps.getD t undef)) → ∀ (l : List Nat) (w : World), ((l.map ResultVar.tmp).mapM f).run P w = .ok (l.map fun t => tmps.getD t undef) w := by
    intro f hf l
    induction l with
    | nil => intro w; rfl
    | cons t l ih => intro w; rw [List.map_cons, List.mapM_cons, hf]; simp only [Sem.run_bind, Sem.run_pure, Result.andThen, ih w, List.map_cons]
  unfold results
  rw [hr, List.mapM_toArray]
  rw [Sem.run_bind, Sem.run_map, key _ (fun _ => rfl)]
  simp only [Result.andThen, Sem.run_pure]
  simp [hts]
theorem res3 {fn : Func} {t u s : Nat} {v v' v'' : Value} {R : Ending → World → Prop} {e : Exit} (he : e = .ret ∨ e = .normal) (hr : fn.results = #[.tmp t, .tmp u, .tmp s]) (hv : ρ t = v) (hv' : ρ u = v') (hv'' : ρ s = v'') (h : R (.returned (.tuple #[v, v', v''])) w) : bodyE P fn n R e ρ w := by
  rcases he with rfl | rfl <;> exact ⟨_, fun a ha => by rw [results_tmps (ts := [t, u, s]) hr _ (by simp)]; simp only [List.map_cons, List.map_nil, ha.get, hv, hv', hv''], h⟩
theorem res4 {fn : Func} {t u s r : Nat} {v v' v'' v3 : Value} {R : Ending → World → Prop} {e : Exit} (he : e = .ret ∨ e = .normal) (hr : fn.results = #[.tmp t, .tmp u, .tmp s, .tmp r]) (hv : ρ t = v) (hv' : ρ u = v') (hv'' : ρ s = v'') (hv3 : ρ r = v3) (h : R (.returned (.tuple #[v, v', v'', v3])) w) : bodyE P fn n R e ρ w := by
  rcases he with rfl | rfl <;> exact ⟨_, fun a ha => by rw [results_tmps (ts := [t, u, s, r]) hr _ (by simp)]; simp only [List.map_cons, List.map_nil, ha.get, hv, hv', hv'', hv3], h⟩
end
end Go.SE
