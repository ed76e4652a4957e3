/- Contracts: escrow/arbiter, Faults. -/
import Derived.Test.YtakogcapgbilaaaCArbC
import Derived.Test.YtakogcapgbilaaaSeI
open Go Go.SE
namespace Go.Sp
def Fault.key (f : Fault) : Fault := { f with a := 0, b := 0 }
def addFault (out : List Fault) (i k : Int) (f : Fault) : List Fault := if f.kind = 0 ∨ f ∈ out.map Fault.key then out else out ++ [{ f with a := i, b := k }]
def faultsRow (i : Int) (a : Letter) : Int → List Letter → List Fault → List Fault
  | _, [], out => out
  | k, b :: bs, out => faultsRow i a (k + 1) bs (addFault out i k (fault a b))
def faultsFrom : Int → List Letter → List Fault → List Fault
  | _, [], out => out
  | i, a :: ls, out => faultsFrom (i + 1) ls (faultsRow i a (i + 1) ls out)
def faults (ls : List Letter) : List Fault := faultsFrom 0 ls []
theorem fault_key (a b : Letter) : (fault a b).a = 0 ∧ (fault a b).b = 0 := by
  unfold fault; repeat' split
  all_goals simp
theorem addFault_len (out : List Fault) (i k : Int) (f : Fault) : (addFault out i k f).length ≤ out.length + 1 := by
  unfold addFault; split <;> simp
end Go.Sp
namespace Go.Proofs
attribute [local irreducible] Calls
def fval (f : Sp.Fault) : Value := .agg (frow f).toArray
def fmap (out : List Sp.Fault) : List (Value × Value) := out.map fun f => (fval f.key, .int .i64 1)
def IsFault (v : Value) : Prop := ∃ f, v = fval f
theorem fval_inj {f g : Sp.Fault} : fval f = fval g ↔ f = g := by
  constructor
  · intro h
    cases f; cases g
    simp [fval, frow] at h
    simp [h]
  · rintro rfl; rfl
theorem keyOK_fault : KeyOK Try.prog 134 IsFault := by
  refine KeyOK.of_struct Try.underlying134 ?_ ?_ ?_
  · rintro _ ⟨n, rfl⟩ em w; kernel_rfl
  · rintro _ _ w ⟨n, rfl⟩ ⟨n', rfl⟩
    refine ⟨decide (n = n'), ?_, by simp only [fval_inj, decide_eq_true_eq]; exact eq_comm⟩
    obtain ⟨k, f, t, u, x⟩ := n
    obtain ⟨k', f', t', u', x'⟩ := n'
    simp [Op.equal, Op.maxDepth, go_sem, fval, frow]
    repeat' split
    all_goals simp_all
  · rintro _ ⟨n, rfl⟩
    have h : ∀ d, Instr.sameBits (d + 1) (fval n) (fval n) = true := fun d => by
      cases d <;> simp [Instr.sameBits, fval, frow]
    exact h 9999
theorem slT_fault : SlType Try.prog 35 134 5 40 := by
  refine ⟨Try.underlying35, ⟨Try.t134, _, by kernel_rfl, (by kernel_rfl : Try.t134.zero = some (.agg #[.int .i64 0, .int .u64 0, .int .i64 0, .int .i64 0, .int .i64 0])), by kernel_rfl, by kernel_rfl, rfl⟩, by omega⟩

theorem fmap_keys {out : List Sp.Fault} : ∀ q ∈ fmap out, IsFault q.1 := by
  intro q hq
  obtain ⟨f, _, rfl⟩ := List.mem_map.1 hq
  exact ⟨_, rfl⟩
theorem fmap_not {out : List Sp.Fault} {f : Sp.Fault} (h : f ∉ out.map Sp.Fault.key) : ∀ q ∈ fmap out, q.1 ≠ fval f := by
  intro q hq e
  obtain ⟨g, hg, rfl⟩ := List.mem_map.1 hq
  exact h (List.mem_map.2 ⟨g, hg, fval_inj.1 e⟩)

end Go.Proofs
