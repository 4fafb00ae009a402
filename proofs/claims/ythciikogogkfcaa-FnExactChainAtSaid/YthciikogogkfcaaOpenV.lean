/- Arguments that are versions, or slices of them, opened. -/
import Derived.Test.YthciikogogkfcaaOpenD
import Derived.Test.YthciikogogkfcaaVerP
namespace Go.Proofs.Ythciikogogkfcaa
open Go.ChangeShapes Go.WideShapes Go.ChangeAt Go.RowKit Go.Joins Go.Deep

section
variable {H : Type} {enc : TypeId × Value → H} {P : Program} {w : World} {base : Nat} {spare : Nat → Bool} {held : Bool} {r : Reach} {b0 : Nat} {t e : TypeId} {v : Value} {d : DataW H} {p : List MemPlace}

theorem deps_cells {g0 g1 f0 f1 : Field} (ht : P.underlying t = some (.slice e)) (hs : IsDep P e g0 g1 f0 f1) {fuel : Nat} {cs : List Value} {x : DataW H × List MemPlace} (h : DataW.trod enc P w base spare held fuel t cs = some x) :
    ∃ a cap, ∃ l : List Dp, cs = [.slice a l.length cap] ∧ Reads w a l.length cap (dpsC l) := by
  rcases open_slice ht h with ⟨hcs, _⟩ | ⟨y, l, c, m, n, D, Pl, hcs, hb, hl, hm, hmm, hx, hi⟩
  · subst hcs
    exact ⟨none, 0, [], rfl, Nat.le_refl _, by simp, fun h => absurd rfl h⟩
  · subst hcs
    obtain ⟨ls, hlen, hrd⟩ := reads_of (k := 3) dpC (fun _ => rfl) hl hm (fun i hil => by
      obtain ⟨cs', hc, ht'⟩ := hi i (by split at hmm <;> omega)
      rw [hs.size] at hc
      obtain ⟨_, hcl, hat⟩ := World.cells?_some hc
      obtain ⟨z, rfl, _⟩ := dep_cells hs ht'
      refine ⟨z, fun j u hj => ?_⟩
      have hjl : j < 3 := by have := (List.getElem?_eq_some_iff.1 hj).1; simpa [dpC] using this
      rw [← Go.Deep.add_add, hat j hjl]
      exact hj)
    subst hlen
    exact ⟨_, _, ls, rfl, hrd⟩
/-- What a struct type must be so that it is a version. -/
structure IsVer (P : Program) (t : TypeId) (k st va cl ca de g0 g1 f0 f1 f2 f3 : Field) (e : TypeId) : Prop where
  under : P.underlying t = some (.struct #[k, st, va, cl, ca, de])
  size : P.cellsOf t = 7
  o0 : k.offset = 0
  o1 : st.offset = 1
  o2 : va.offset = 3
  o3 : cl.offset = 4
  o4 : ca.offset = 5
  o5 : de.offset = 6
  t0 : P.underlying k.type = some (.int .i64)
  s0 : P.cellsOf k.type = 1
  t1 : IsStamp P st.type f0 f1
  t2 : P.underlying va.type = some (.int .i64)
  s2 : P.cellsOf va.type = 1
  t3 : P.underlying cl.type = some (.int .i64)
  s3 : P.cellsOf cl.type = 1
  t4 : P.underlying ca.type = some (.int .i64)
  s4 : P.cellsOf ca.type = 1
  t5 : P.underlying de.type = some (.slice e)
  s5 : P.cellsOf de.type = 1
  te : IsDep P e g0 g1 f2 f3
theorem ver_cells {k st va cl ca de g0 g1 f0 f1 f2 f3 : Field} (hs : IsVer P t k st va cl ca de g0 g1 f0 f1 f2 f3 e) {fuel : Nat} {cs : List Value} {x : DataW H × List MemPlace} (h : DataW.trod enc P w base spare held fuel t cs = some x) :
    ∃ m : Mv, cs = mvC m ∧ Reads w m.a m.v.deps.length m.c (dpsC m.v.deps) := by
  obtain ⟨xs, n, _, _, hlen, hx, hf⟩ := DataW.trod_struct hs.under h
  rw [hs.size] at hlen
  match cs, hlen with
  | [c0, c1, c2, c3, c4, c5, c6], _ =>
    have h0 := hf 0 k rfl
    have h1 := hf 1 st rfl
    have h2 := hf 2 va rfl
    have h3 := hf 3 cl rfl
    have h4 := hf 4 ca rfl
    have h5 := hf 5 de rfl
    rw [hs.o0, hs.s0] at h0
    rw [hs.o1, hs.t1.size] at h1
    rw [hs.o2, hs.s2] at h2
    rw [hs.o3, hs.s3] at h3
    rw [hs.o4, hs.s4] at h4
    rw [hs.o5, hs.s5] at h5
    match xs, hx with
    | [y0, y1, y2, y3, y4, y5], _ =>
      simp at h0 h1 h2 h3 h4 h5
      obtain ⟨a0, e0, _, _⟩ := DataW.trod_int hs.t0 h0
      obtain ⟨a1, b1, e1, _, _⟩ := stamp_cells hs.t1 h1
      obtain ⟨a2, e2, _, _⟩ := DataW.trod_int hs.t2 h2
      obtain ⟨a3, e3, _, _⟩ := DataW.trod_int hs.t3 h3
      obtain ⟨a4, e4, _, _⟩ := DataW.trod_int hs.t4 h4
      obtain ⟨a, cap, l, e5, hr⟩ := deps_cells hs.t5 hs.te h5
      simp only [List.cons.injEq, and_true] at e0 e1 e2 e3 e4 e5
      obtain ⟨rfl, rfl⟩ := e1
      subst e0 e2 e3 e4 e5
      exact ⟨⟨⟨a0, a1, b1, a2, a3, a4, l⟩, a, cap⟩, rfl, hr⟩
theorem vers_cells {k st va cl ca de g0 g1 f0 f1 f2 f3 : Field} {q : TypeId} (ht : P.underlying t = some (.slice q)) (hs : IsVer P q k st va cl ca de g0 g1 f0 f1 f2 f3 e) {fuel : Nat} {cs : List Value} {x : DataW H × List MemPlace} (h : DataW.trod enc P w base spare held fuel t cs = some x) :
    ∃ a cap, ∃ l : List Mv, cs = [.slice a l.length cap] ∧ Vers w a cap l := by
  rcases open_slice ht h with ⟨hcs, _⟩ | ⟨y, l, c, m, n, D, Pl, hcs, hb, hl, hm, hmm, hx, hi⟩
  · subst hcs
    exact ⟨none, 0, [], rfl, Vers.nil w⟩
  · subst hcs
    obtain ⟨ls, hlen, hrd⟩ := reads_of (k := 7) (α := { m : Mv // Reads w m.a m.v.deps.length m.c (dpsC m.v.deps) }) (fun z => mvC z.1) (fun _ => rfl) hl hm (fun i hil => by
      obtain ⟨cs', hc, ht'⟩ := hi i (by split at hmm <;> omega)
      rw [hs.size] at hc
      obtain ⟨_, hcl, hat⟩ := World.cells?_some hc
      obtain ⟨z, rfl, hz⟩ := ver_cells hs ht'
      refine ⟨⟨z, hz⟩, fun j u hj => ?_⟩
      have hjl : j < 7 := by have := (List.getElem?_eq_some_iff.1 hj).1; simpa [mvC] using this
      rw [← Go.Deep.add_add, hat j hjl]
      exact hj)
    subst hlen
    refine ⟨_, _, ls.map Subtype.val, by rw [List.length_map], ⟨?_, ?_⟩⟩
    · rw [List.length_map]
      have : mvsC (ls.map Subtype.val) = ls.flatMap (fun z => mvC z.1) := by simp [mvsC]
      rw [this]; exact hrd
    · intro m hm
      obtain ⟨z, _, rfl⟩ := List.mem_map.1 hm
      exact z.2
theorem ver_of {k st va cl ca de g0 g1 f0 f1 f2 f3 : Field} (hs : IsVer P t k st va cl ca de g0 g1 f0 f1 f2 f3 e) (hv : Value.okWide P w r b0 t v) (h : DataW.Trod enc P w base spare held t v d p) :
    ∃ m : Mv, v = .agg #[.int .i64 m.v.key, .int .i64 m.v.time, .int .i64 m.v.site, .int .i64 m.v.val, .int .i64 m.v.client, .int .i64 m.v.call, .slice m.a m.v.deps.length m.c] ∧ Reads w m.a m.v.deps.length m.c (dpsC m.v.deps) := by
  obtain ⟨cs, rfl, hsz⟩ := okWide_struct hs.under hv
  obtain ⟨fuel, hf⟩ := h
  obtain ⟨m, ha, hb⟩ := ver_cells hs hf
  refine ⟨m, ?_, hb⟩
  obtain ⟨l⟩ := cs
  simp [Value.cells, mvC] at ha
  rw [ha]
theorem vers_of {k st va cl ca de g0 g1 f0 f1 f2 f3 : Field} {q : TypeId} (ht : P.underlying t = some (.slice q)) (hs : IsVer P q k st va cl ca de g0 g1 f0 f1 f2 f3 e) (hv : Value.okWide P w r b0 t v) (h : DataW.Trod enc P w base spare held t v d p) :
    ∃ a cap, ∃ l : List Mv, v = .slice a l.length cap ∧ Vers w a cap l := by
  obtain ⟨a, len, cap, rfl⟩ := okWide_slice ht hv
  obtain ⟨fuel, hf⟩ := h
  obtain ⟨a', cap', l, hcs, hv⟩ := vers_cells ht hs hf
  simp [Value.cells] at hcs
  obtain ⟨rfl, rfl, rfl⟩ := hcs
  exact ⟨_, _, l, rfl, hv⟩
end
theorem isVerL : ∃ k st va cl ca de g0 g1 f0 f1 f2 f3 e, IsVer Try.prog 91 k st va cl ca de g0 g1 f0 f1 f2 f3 e := by
  obtain ⟨f0, f1, hs⟩ := isStampL
  obtain ⟨g0, g1, f2, f3, hd⟩ := isDepL
  exact ⟨_, _, _, _, _, _, g0, g1, f0, f1, f2, f3, 138, Try.underlying91, by kernel_rfl, rfl, rfl, rfl, rfl, rfl, rfl, Try.underlying3, by kernel_rfl, hs, Try.underlying3, by kernel_rfl, Try.underlying3, by kernel_rfl, Try.underlying3, by kernel_rfl, Try.underlying52, by kernel_rfl, hd⟩
end Go.Proofs.Ythciikogogkfcaa
