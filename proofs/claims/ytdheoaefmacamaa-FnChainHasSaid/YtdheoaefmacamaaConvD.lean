/- Dependencies handed over, counted, compared and marked by the laws' own functions. -/
import Derived.Test.YtdheoaefmacamaaDepsP
namespace Go.Proofs.Ytdheoaefmacamaa
open Go.RowKit Go.Deep
set_option linter.unusedVariables false
theorem infoDepI : (Try.prog.info? 48).map (fun i => (i.zero, i.size, i.bytes)) = some (some (.agg #[.int .i64 0, .int .i64 0, .int .i64 0]), 3, 24) := by kernel_rfl
/-- The slice handed back is new memory of the callee's own, and holds l. -/
def ToNewDep (l : List (Int × Int × Int)) (w : World) (e : Ending) (w' : World) : Prop := ∃ v, e = .returned v ∧ w'.ownsRow w.heap.size 48 3 v l.length (dpsC l) ∧ Below w.heap.size w w'
/-- What a list holds that has been marked from k on. -/
def marksD (k : Int) : Nat → List Dp
  | 0 => []
  | n + 1 => (k, k + 1, k + 2) :: marksD (k + 3) n
theorem marksD_len (k : Int) (n : Nat) : (marksD k n).length = n := by
  induction n generalizing k with
  | zero => rfl
  | succ n ih => simp [marksD, ih]
theorem marksD_get (k : Int) (n i : Nat) (h : i < n) : (marksD k n)[i]'(by rw [marksD_len]; exact h) = (k + 3 * (i : Int), k + 3 * (i : Int) + 1, k + 3 * (i : Int) + 2) := by
  induction n generalizing k i with
  | zero => omega
  | succ n ih =>
    cases i with
    | zero => simp [marksD]
    | succ i =>
      simp only [marksD, List.getElem_cons_succ]
      rw [ih (k + 3) i (by omega)]
      simp only [Prod.mk.injEq]
      push_cast
      omega
/-- A list of one's own has been marked. -/
def Marked (N : Nat) (v : Value) (n : Nat) (k : Int) (w : World) (e : Ending) (w' : World) : Prop :=
  e = .returned (.int .i64 (k + 3 * (n : Int))) ∧ w'.ownsRow N 48 3 v n (dpsC (marksD k n)) ∧ w.grownBy w' v.ownBlock
end Go.Proofs.Ytdheoaefmacamaa
