/- A slot's versions, and all others: the program's functions and the reference's. -/
import Derived.Test.YthciikogogkfcaaChainW2
import Derived.Test.YthciikogogkfcaaTwo
namespace Go.Proofs.Ythciikogogkfcaa
open Go.RowKit Go.Deep
set_option linter.unusedVariables false

theorem filt_yes {l : List Mv} {p : Vp → Bool} {k : Nat} {A : List Mv} {m : Mv} (hk : k < l.length) (hA : vs A = ((vs l).take k).filter p) (hm : m.v = l[k].v) (hp : p l[k].v = true) : vs (A ++ [m]) = ((vs l).take (k + 1)).filter p := by
  rw [vs_snoc, hA, hm, List.take_succ_eq_append_getElem (by rw [vs_len]; exact hk), List.filter_append, vs_get l k hk]
  simp [hp]
theorem filt_no {l : List Mv} {p : Vp → Bool} {k : Nat} {A : List Mv} (hk : k < l.length) (hA : vs A = ((vs l).take k).filter p) (hp : p l[k].v = false) : vs A = ((vs l).take (k + 1)).filter p := by
  rw [hA, List.take_succ_eq_append_getElem (by rw [vs_len]; exact hk), List.filter_append, vs_get l k hk]
  simp [hp]

theorem infoVer5 : (Try.prog.info? 27).map (fun i => (i.zero, i.size, i.bytes)) = some (some (.agg #[.int .i64 0, .int .i64 0, .int .i64 0, .int .i64 0, .int .i64 0, .int .i64 0, .slice none 0 0]), 7, 72) := by kernel_rfl
theorem slot_no {l : List Vp} (slot : Int) (h : chainOkB l = false) : [] = slotIn l slot ∧ [] = slotOut l slot := by simp [slotIn, slotOut, h]
theorem slot_yes {l : List Vp} (slot : Int) (h : chainOkB l = true) : l.filter (inSlot slot) = slotIn l slot ∧ l.filter (fun v => !inSlot slot v) = slotOut l slot := by simp [slotIn, slotOut, h]
end Go.Proofs.Ythciikogogkfcaa
