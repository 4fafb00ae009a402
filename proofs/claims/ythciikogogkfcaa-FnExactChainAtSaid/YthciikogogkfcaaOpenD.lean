/- Arguments that are dependencies, or slices of them, opened. -/
import Derived.Test.YthciikogogkfcaaOpen
import Derived.Test.YthciikogogkfcaaDepsP
namespace Go.Proofs.Ythciikogogkfcaa
open Go.ChangeShapes Go.WideShapes Go.ChangeAt Go.RowKit Go.Joins Go.Deep

section
variable {H : Type} {enc : TypeId × Value → H} {P : Program} {w : World} {base : Nat} {spare : Nat → Bool} {held : Bool} {r : Reach} {b0 : Nat} {t e : TypeId} {v : Value} {d : DataW H} {p : List MemPlace}

/-- What a struct type must be so that it is a stamp: two int fields, one behind the other. -/
structure IsStamp (P : Program) (t : TypeId) (f0 f1 : Field) : Prop where
  under : P.underlying t = some (.struct #[f0, f1])
  size : P.cellsOf t = 2
  o0 : f0.offset = 0
  o1 : f1.offset = 1
  t0 : P.underlying f0.type = some (.int .i64)
  t1 : P.underlying f1.type = some (.int .i64)
  s0 : P.cellsOf f0.type = 1
  s1 : P.cellsOf f1.type = 1
theorem stamp_cells {f0 f1 : Field} (hs : IsStamp P t f0 f1) {fuel : Nat} {cs : List Value} {x : DataW H × List MemPlace} (h : DataW.trod enc P w base spare held fuel t cs = some x) :
    ∃ a b : Int, cs = [.int .i64 a, .int .i64 b] ∧ I64 a ∧ I64 b := by
  obtain ⟨xs, n, _, _, hlen, hx, hf⟩ := DataW.trod_struct hs.under h
  rw [hs.size] at hlen
  match cs, hlen with
  | [c0, c1], _ =>
    have h0 := hf 0 f0 rfl
    have h1 := hf 1 f1 rfl
    rw [hs.o0, hs.s0] at h0
    rw [hs.o1, hs.s1] at h1
    match xs, hx with
    | [y0, y1], _ =>
      simp at h0 h1
      obtain ⟨a, e0, _, wa⟩ := DataW.trod_int hs.t0 h0
      obtain ⟨b, e1, _, wb⟩ := DataW.trod_int hs.t1 h1
      simp only [List.cons.injEq, and_true] at e0 e1
      subst e0 e1
      exact ⟨a, b, rfl, bounds_i64 wa, bounds_i64 wb⟩
/-- .. so that it is a dependency: an int, and a stamp behind it. -/
structure IsDep (P : Program) (t : TypeId) (g0 g1 f0 f1 : Field) : Prop where
  under : P.underlying t = some (.struct #[g0, g1])
  size : P.cellsOf t = 3
  o0 : g0.offset = 0
  o1 : g1.offset = 1
  t0 : P.underlying g0.type = some (.int .i64)
  s0 : P.cellsOf g0.type = 1
  t1 : IsStamp P g1.type f0 f1
theorem dep_cells {g0 g1 f0 f1 : Field} (hs : IsDep P t g0 g1 f0 f1) {fuel : Nat} {cs : List Value} {x : DataW H × List MemPlace} (h : DataW.trod enc P w base spare held fuel t cs = some x) :
    ∃ a : Dp, cs = dpC a ∧ I64 a.1 := by
  obtain ⟨xs, n, _, _, hlen, hx, hf⟩ := DataW.trod_struct hs.under h
  rw [hs.size] at hlen
  match cs, hlen with
  | [c0, c1, c2], _ =>
    have h0 := hf 0 g0 rfl
    have h1 := hf 1 g1 rfl
    rw [hs.o0, hs.s0] at h0
    rw [hs.o1, hs.t1.size] at h1
    match xs, hx with
    | [y0, y1], _ =>
      simp at h0 h1
      obtain ⟨a, e0, _, wa⟩ := DataW.trod_int hs.t0 h0
      obtain ⟨b, c, e1, _, _⟩ := stamp_cells hs.t1 h1
      simp only [List.cons.injEq, and_true] at e0 e1
      obtain ⟨rfl, rfl⟩ := e1
      subst e0
      exact ⟨(a, b, c), rfl, bounds_i64 wa⟩
theorem deps_of {g0 g1 f0 f1 : Field} (ht : P.underlying t = some (.slice e)) (hs : IsDep P e g0 g1 f0 f1) (hv : Value.okWide P w r b0 t v) (h : DataW.Trod enc P w base spare held t v d p) :
    ∃ a cap, ∃ l : List Dp, v = .slice a l.length cap ∧ Reads w a l.length cap (dpsC l) := by
  obtain ⟨a, len, cap, rfl⟩ := okWide_slice ht hv
  obtain ⟨fuel, hf⟩ := h
  rcases open_slice ht hf with ⟨hcs, _⟩ | ⟨x, l, c, m, n, D, Pl, hcs, hb, hl, hm, hmm, hx, hi⟩
  · simp [Value.cells] at hcs
    obtain ⟨rfl, rfl, rfl⟩ := hcs
    exact ⟨none, 0, [], rfl, Nat.le_refl _, by simp, fun h => absurd rfl h⟩
  · simp [Value.cells] at hcs
    obtain ⟨rfl, rfl, rfl⟩ := hcs
    obtain ⟨ls, hlen, hrd⟩ := reads_of (k := 3) dpC (fun _ => rfl) hl hm (fun i hil => by
      obtain ⟨cs', hc, ht'⟩ := hi i (by split at hmm <;> omega)
      rw [hs.size] at hc
      obtain ⟨_, hcl, hat⟩ := World.cells?_some hc
      obtain ⟨y, rfl, _⟩ := dep_cells hs ht'
      refine ⟨y, fun j u hj => ?_⟩
      have hjl : j < 3 := by have := (List.getElem?_eq_some_iff.1 hj).1; simpa [dpC] using this
      rw [← Go.Deep.add_add, hat j hjl]
      exact hj)
    subst hlen
    exact ⟨_, _, ls, rfl, hrd⟩
theorem dep_of {g0 g1 f0 f1 : Field} (hs : IsDep P t g0 g1 f0 f1) (hv : Value.okWide P w r b0 t v) (h : DataW.Trod enc P w base spare held t v d p) :
    ∃ a : Dp, v = .agg #[.int .i64 a.1, .int .i64 a.2.1, .int .i64 a.2.2] ∧ I64 a.1 := by
  obtain ⟨cs, rfl, hsz⟩ := okWide_struct hs.under hv
  obtain ⟨fuel, hf⟩ := h
  obtain ⟨a, ha, hb⟩ := dep_cells hs hf
  refine ⟨a, ?_, hb⟩
  obtain ⟨l⟩ := cs
  simp [Value.cells, dpC] at ha
  rw [ha]
end
theorem isStampL : ∃ f0 f1, IsStamp Try.prog 35 f0 f1 := ⟨_, _, Try.underlying35, by kernel_rfl, rfl, rfl, Try.underlying3, Try.underlying3, by kernel_rfl, by kernel_rfl⟩
theorem isDepL : ∃ g0 g1 f0 f1, IsDep Try.prog 138 g0 g1 f0 f1 := by
  obtain ⟨f0, f1, h⟩ := isStampL
  exact ⟨_, _, f0, f1, Try.underlying138, by kernel_rfl, rfl, rfl, Try.underlying3, by kernel_rfl, h⟩
end Go.Proofs.Ythciikogogkfcaa
