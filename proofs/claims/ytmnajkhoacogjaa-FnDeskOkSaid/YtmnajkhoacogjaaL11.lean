/-
  slices.Delete of one bound, out of a row of the call's own.
  impl.WithoutBound, impl.NeedlessOk.
  impl.TrimmedOf.
-/
import Derived.Test.YtmnajkhoacogjaaL11a
import Derived.Test.YtmnajkhoacogjaaP8
import Derived.Test.YtmnajkhoacogjaaI1
namespace Go.Proofs.Ytmnajkhoacogjaa
set_option linter.unusedVariables false
set_option linter.unusedSimpArgs false
open Go.RowKit Pp

theorem zeroB (w : World) : (zeroValue 51).run Try.prog w = .ok (.agg #[.int .i64 0, .int .i64 0, .int .i64 0]) w := by kernel_rfl

theorem clear_one (w : World) (ty : TypeId) (g o c : Nat) (hc : ∀ j, j < 3 → (w.cell? ⟨g, o + j, none⟩).isSome = true) (hf : ∀ j, j < 3 → w.frozen? ⟨g, o + j, none⟩ = false) :
    (Builtin.clear_ #[23] ty #[.slice (some ⟨g, o, none⟩) 1 c]).run Try.prog w = .ok (.tuple #[]) (w.setCells g o [.int .i64 0, .int .i64 0, .int .i64 0]) := by
  have hst := run_storeCells_cells (P := Try.prog) g o [.int .i64 0, .int .i64 0, .int .i64 0] 0 w (by simpa using hc) (by simpa using hf) (by simp [Value.oneCell'])
  simp only [Nat.add_zero] at hst
  have hz : (Builtin.zeroCells (Value.agg #[.int .i64 0, .int .i64 0, .int .i64 0]).cells 1).toList = [.int .i64 0, .int .i64 0, .int .i64 0] := by simp [Builtin.zeroCells, Value.cells, Array.range, Array.ofFn]; rfl
  simp [Builtin.clear_, run_underlying Try.underlying23, zeroB, hz, hst]

theorem needlessI_no {p : Pl} {at_ : Int} (h : (planOk p && inB at_ 0 ((p.bs.length : Int) - 1)) = false) : needlessI p at_ = false := by
  cases hn : needlessI p at_
  · rfl
  · unfold needlessI needless alike at hn
    simp only [Bool.and_eq_true, decide_eq_true_eq] at hn
    rw [(implies_ok hn.2.2.1).1, Bool.true_and] at h
    have : inB at_ 0 ((p.bs.length : Int) - 1) = true := inB_iff.2 (by omega)
    rw [this] at h
    cases h

end Go.Proofs.Ytmnajkhoacogjaa
