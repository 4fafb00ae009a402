/- Lists of versions handed over, counted and compared by the laws' own functions. -/
import Derived.Test.YtdheoaefmacamaaVerO
import Derived.Test.YtdheoaefmacamaaConvV
import Derived.Test.YtdheoaefmacamaaChainW
namespace Go.Proofs.Ytdheoaefmacamaa
open Go.RowKit Go.Deep
set_option linter.unusedVariables false

theorem infoVer : (Try.prog.info? 35).map (fun i => (i.zero, i.size, i.bytes)) = some (some (.agg #[.int .i64 0, .int .i64 0, .int .i64 0, .int .i64 0, .int .i64 0, .int .i64 0, .slice none 0 0]), 7, 72) := by kernel_rfl
/-- How much a list of versions counts for. -/
def sizeM (l : List Mv) : Nat := l.length + sumD l
theorem few_of {l : List Mv} (h : sizeM l ≤ 1048576) : Few l := ⟨by unfold sizeM at h; omega, fun m hm => by have := sumD_mem l m hm; unfold sizeM at h; omega⟩
theorem few_vs {l l' : List Mv} (h : vs l' = vs l) (hf : Few l) : Few l' := by
  have hl : l'.length = l.length := by rw [← vs_len l', h, vs_len]
  refine ⟨by rw [hl]; exact hf.1, fun m hm => ?_⟩
  have : m.v ∈ vs l := by rw [← h]; exact List.mem_map_of_mem hm
  obtain ⟨x, hx, he⟩ := List.mem_map.1 this
  rw [← he]; exact hf.2 x hx

/-- A list of versions in memory of the callee's own, that reads as l does. -/
def ToVers (l : List Vp) (w : World) (e : Ending) (w' : World) : Prop := ∃ v ms, e = .returned v ∧ vs ms = l ∧ OwnVers w.heap.size w' v ms ∧ Below w.heap.size w w'
end Go.Proofs.Ytdheoaefmacamaa
