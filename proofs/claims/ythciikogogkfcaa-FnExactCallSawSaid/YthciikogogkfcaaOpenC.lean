/- Arguments that are calls, opened. -/
import Derived.Test.YthciikogogkfcaaCallP
import Derived.Test.YthciikogogkfcaaOpenV
namespace Go.Proofs.Ythciikogogkfcaa
open Go.ChangeShapes Go.WideShapes Go.ChangeAt Go.RowKit Go.Joins Go.Deep
set_option linter.unusedVariables false

section
variable {H : Type} {enc : TypeId × Value → H} {P : Program} {w : World} {base : Nat} {spare : Nat → Bool} {held : Bool} {r : Reach} {b0 : Nat} {t e : TypeId} {v : Value} {d : DataW H} {p : List MemPlace}
theorem ints_flat (l : List Int) : l.flatMap (fun k => [intC k]) = intsC l := by
  induction l with
  | nil => rfl
  | cons x l ih => simp only [List.flatMap_cons, ih]; rfl
theorem ints_cells {e : TypeId} (ht : P.underlying t = some (.slice e)) (he : P.underlying e = some (.int .i64)) (hC : P.cellsOf e = 1) {fuel : Nat} {cs : List Value} {x : DataW H × List MemPlace} (h : DataW.trod enc P w base spare held fuel t cs = some x) :
    ∃ a cap, ∃ l : List Int, cs = [.slice a l.length cap] ∧ Reads w a l.length cap (intsC l) := by
  rcases open_slice ht h with ⟨hcs, _⟩ | ⟨y, l, c, m, n, D, Pl, hcs, hb, hl, hm, hmm, hx, hi⟩
  · subst hcs
    exact ⟨none, 0, [], rfl, Nat.le_refl _, by simp, fun h => absurd rfl h⟩
  · subst hcs
    obtain ⟨ls, hlen, hrd⟩ := reads_of (k := 1) (fun k : Int => [intC k]) (fun _ => rfl) hl hm (fun i hil => by
      obtain ⟨cs', hc, ht'⟩ := hi i (by split at hmm <;> omega)
      rw [hC] at hc
      obtain ⟨_, hcl, hat⟩ := World.cells?_some hc
      obtain ⟨z, rfl, _, _⟩ := DataW.trod_int he ht'
      refine ⟨z, fun j u hj => ?_⟩
      have hjl : j < 1 := by have := (List.getElem?_eq_some_iff.1 hj).1; simpa using this
      rw [← Go.Deep.add_add, hat j hjl]
      exact hj)
    subst hlen
    rw [ints_flat] at hrd
    exact ⟨_, _, ls, rfl, hrd⟩
/-- What a struct type must be so that it is an answer. -/
structure IsAns (P : Program) (t : TypeId) (ke ye ve vk vst vva vcl vca vde vg0 vg1 vf0 vf1 vf2 vf3 : Field) (e : TypeId) : Prop where
  under : P.underlying t = some (.struct #[ke, ye, ve])
  size : P.cellsOf t = 9
  o0 : ke.offset = 0
  o1 : ye.offset = 1
  o2 : ve.offset = 2
  t0 : P.underlying ke.type = some (.int .i64)
  s0 : P.cellsOf ke.type = 1
  t1 : P.underlying ye.type = some (.bool)
  s1 : P.cellsOf ye.type = 1
  t2 : IsVer P ve.type vk vst vva vcl vca vde vg0 vg1 vf0 vf1 vf2 vf3 e
theorem an_cells {ke ye ve vk vst vva vcl vca vde vg0 vg1 vf0 vf1 vf2 vf3 : Field} (hs : IsAns P t ke ye ve vk vst vva vcl vca vde vg0 vg1 vf0 vf1 vf2 vf3 e) {fuel : Nat} {cs : List Value} {x : DataW H × List MemPlace} (h : DataW.trod enc P w base spare held fuel t cs = some x) :
    ∃ m : An, cs = anC m ∧ Reads w m.a m.p.v.deps.length m.c (dpsC m.p.v.deps) := by
  obtain ⟨xs, n, _, _, hlen, hx, hf⟩ := DataW.trod_struct hs.under h
  rw [hs.size] at hlen
  match cs, hlen with
  | [c0, c1, c2, c3, c4, c5, c6, c7, c8], _ =>
    have h0 := hf 0 ke rfl
    have h1 := hf 1 ye rfl
    have h2 := hf 2 ve rfl
    rw [hs.o0, hs.s0] at h0
    rw [hs.o1, hs.s1] at h1
    rw [hs.o2, hs.t2.size] at h2
    match xs, hx with
    | [y0, y1, y2], _ =>
      simp at h0 h1 h2
      obtain ⟨a0, e0, _, _⟩ := DataW.trod_int hs.t0 h0
      obtain ⟨a1, e1, _⟩ := DataW.trod_bool hs.t1 h1
      obtain ⟨m, e2, hr⟩ := ver_cells hs.t2 h2
      simp only [mvC, List.cons.injEq, and_true] at e0 e1 e2
      obtain ⟨q2, q3, q4, q5, q6, q7, q8⟩ := e2
      subst e0 e1 q2 q3 q4 q5 q6 q7 q8
      exact ⟨⟨⟨a0, a1, m.v⟩, m.a, m.c⟩, rfl, hr⟩
theorem ans_cells {ke ye ve vk vst vva vcl vca vde vg0 vg1 vf0 vf1 vf2 vf3 : Field} {q : TypeId} (ht : P.underlying t = some (.slice q)) (hs : IsAns P q ke ye ve vk vst vva vcl vca vde vg0 vg1 vf0 vf1 vf2 vf3 e) {fuel : Nat} {cs : List Value} {x : DataW H × List MemPlace} (h : DataW.trod enc P w base spare held fuel t cs = some x) :
    ∃ a cap, ∃ l : List An, cs = [.slice a l.length cap] ∧ Ans w a cap l := by
  rcases open_slice ht h with ⟨hcs, _⟩ | ⟨y, l, c, m, n, D, Pl, hcs, hb, hl, hm, hmm, hx, hi⟩
  · subst hcs
    exact ⟨none, 0, [], rfl, ⟨Nat.le_refl _, by simp, fun h => absurd rfl h⟩, fun m hm => by simp at hm⟩
  · subst hcs
    obtain ⟨ls, hlen, hrd⟩ := reads_of (k := 9) (α := { m : An // Reads w m.a m.p.v.deps.length m.c (dpsC m.p.v.deps) }) (fun z => anC z.1) (fun _ => rfl) hl hm (fun i hil => by
      obtain ⟨cs', hc, ht'⟩ := hi i (by split at hmm <;> omega)
      rw [hs.size] at hc
      obtain ⟨_, hcl, hat⟩ := World.cells?_some hc
      obtain ⟨z, rfl, hz⟩ := an_cells hs ht'
      refine ⟨⟨z, hz⟩, fun j u hj => ?_⟩
      have hjl : j < 9 := by have := (List.getElem?_eq_some_iff.1 hj).1; simpa [anC] using this
      rw [← Go.Deep.add_add, hat j hjl]
      exact hj)
    subst hlen
    refine ⟨_, _, ls.map Subtype.val, by rw [List.length_map], ⟨?_, ?_⟩⟩
    · rw [List.length_map]
      have : ansC (ls.map Subtype.val) = ls.flatMap (fun z => anC z.1) := by simp [ansC]
      rw [this]; exact hrd
    · intro m hm
      obtain ⟨z, _, rfl⟩ := List.mem_map.1 hm
      exact z.2
/-- What a struct type must be so that it is a call. -/
structure IsCall (P : Program) (t : TypeId) (cl nu ki ke va cx be en ov st go ne sf0 sf1 ake aye ave vk vst vva vcl vca vde vg0 vg1 vf0 vf1 vf2 vf3 dg0 dg1 df0 df1 : Field) (ie_ de_ ae_ e : TypeId) : Prop where
  under : P.underlying t = some (.struct #[cl, nu, ki, ke, va, cx, be, en, ov, st, go, ne])
  size : P.cellsOf t = 13
  o0 : cl.offset = 0
  t0 : P.underlying cl.type = some (.int .i64)
  s0 : P.cellsOf cl.type = 1
  o1 : nu.offset = 1
  t1 : P.underlying nu.type = some (.int .i64)
  s1 : P.cellsOf nu.type = 1
  o2 : ki.offset = 2
  t2 : P.underlying ki.type = some (.int .i64)
  s2 : P.cellsOf ki.type = 1
  o3 : ke.offset = 3
  t3 : P.underlying ke.type = some (.slice ie_)
  s3 : P.cellsOf ke.type = 1
  o4 : va.offset = 4
  t4 : P.underlying va.type = some (.int .i64)
  s4 : P.cellsOf va.type = 1
  o5 : cx.offset = 5
  t5 : P.underlying cx.type = some (.slice de_)
  s5 : P.cellsOf cx.type = 1
  o6 : be.offset = 6
  t6 : P.underlying be.type = some (.int .i64)
  s6 : P.cellsOf be.type = 1
  o7 : en.offset = 7
  t7 : P.underlying en.type = some (.int .i64)
  s7 : P.cellsOf en.type = 1
  o8 : ov.offset = 8
  t8 : P.underlying ov.type = some (.bool)
  s8 : P.cellsOf ov.type = 1
  o9 : st.offset = 9
  t9 : IsStamp P st.type sf0 sf1
  o10 : go.offset = 11
  t10 : P.underlying go.type = some (.slice ae_)
  s10 : P.cellsOf go.type = 1
  o11 : ne.offset = 12
  t11 : P.underlying ne.type = some (.slice de_)
  s11 : P.cellsOf ne.type = 1
  ti : P.underlying ie_ = some (.int .i64)
  si : P.cellsOf ie_ = 1
  td : IsDep P de_ dg0 dg1 df0 df1
  ta : IsAns P ae_ ake aye ave vk vst vva vcl vca vde vg0 vg1 vf0 vf1 vf2 vf3 e
def callC (x : Mc) : List Value := [.int .i64 x.client, .int .i64 x.num, .int .i64 x.kind, .slice x.ka x.keys.length x.kc, .int .i64 x.val, .slice x.xa x.ctx.length x.xc, .int .i64 x.beg, .int .i64 x.fin, .bool x.over, .int .i64 x.time, .int .i64 x.site, .slice x.ga x.got.length x.gc, .slice x.na x.needs.length x.nc]
theorem call_cells {cl nu ki ke va cx be en ov st go ne sf0 sf1 ake aye ave vk vst vva vcl vca vde vg0 vg1 vf0 vf1 vf2 vf3 dg0 dg1 df0 df1 : Field} {ie_ de_ ae_ : TypeId} (hs : IsCall P t cl nu ki ke va cx be en ov st go ne sf0 sf1 ake aye ave vk vst vva vcl vca vde vg0 vg1 vf0 vf1 vf2 vf3 dg0 dg1 df0 df1 ie_ de_ ae_ e) {fuel : Nat} {cs : List Value} {x : DataW H × List MemPlace} (h : DataW.trod enc P w base spare held fuel t cs = some x) :
    ∃ m : Mc, cs = callC m ∧ CallIn w m := by
  obtain ⟨xs, n, _, _, hlen, hx, hf⟩ := DataW.trod_struct hs.under h
  rw [hs.size] at hlen
  match cs, hlen with
  | [c0, c1, c2, c3, c4, c5, c6, c7, c8, c9, c10, c11, c12], _ =>
    have h0 := hf 0 cl rfl
    have h1 := hf 1 nu rfl
    have h2 := hf 2 ki rfl
    have h3 := hf 3 ke rfl
    have h4 := hf 4 va rfl
    have h5 := hf 5 cx rfl
    have h6 := hf 6 be rfl
    have h7 := hf 7 en rfl
    have h8 := hf 8 ov rfl
    have h9 := hf 9 st rfl
    have h10 := hf 10 go rfl
    have h11 := hf 11 ne rfl
    rw [hs.o0, hs.s0] at h0
    rw [hs.o1, hs.s1] at h1
    rw [hs.o2, hs.s2] at h2
    rw [hs.o3, hs.s3] at h3
    rw [hs.o4, hs.s4] at h4
    rw [hs.o5, hs.s5] at h5
    rw [hs.o6, hs.s6] at h6
    rw [hs.o7, hs.s7] at h7
    rw [hs.o8, hs.s8] at h8
    rw [hs.o9, hs.t9.size] at h9
    rw [hs.o10, hs.s10] at h10
    rw [hs.o11, hs.s11] at h11
    match xs, hx with
    | [y0, y1, y2, y3, y4, y5, y6, y7, y8, y9, y10, y11], _ =>
      simp at h0 h1 h2 h3 h4 h5 h6 h7 h8 h9 h10 h11
      obtain ⟨a0, e0, _, _⟩ := DataW.trod_int hs.t0 h0
      obtain ⟨a1, e1, _, _⟩ := DataW.trod_int hs.t1 h1
      obtain ⟨a2, e2, _, _⟩ := DataW.trod_int hs.t2 h2
      obtain ⟨q3, r3, l3, e3, d3⟩ := ints_cells hs.t3 hs.ti hs.si h3
      obtain ⟨a4, e4, _, _⟩ := DataW.trod_int hs.t4 h4
      obtain ⟨q5, r5, l5, e5, d5⟩ := deps_cells hs.t5 hs.td h5
      obtain ⟨a6, e6, _, _⟩ := DataW.trod_int hs.t6 h6
      obtain ⟨a7, e7, _, _⟩ := DataW.trod_int hs.t7 h7
      obtain ⟨a8, e8, _⟩ := DataW.trod_bool hs.t8 h8
      obtain ⟨a9, b9, e9, _, _⟩ := stamp_cells hs.t9 h9
      obtain ⟨q10, r10, l10, e10, d10⟩ := ans_cells hs.t10 hs.ta h10
      obtain ⟨q11, r11, l11, e11, d11⟩ := deps_cells hs.t11 hs.td h11
      simp only [List.cons.injEq, and_true] at e0 e1 e2 e3 e4 e5 e6 e7 e8 e9 e10 e11
      obtain ⟨rfl, rfl⟩ := e9
      subst e0 e1 e2 e3 e4 e5 e6 e7 e8 e10 e11
      exact ⟨⟨a0, a1, a2, l3, a4, l5, a6, a7, a8, a9, b9, l10, l11, q3, r3, q5, r5, q10, r10, q11, r11⟩, rfl, ⟨d3, d5, d10, d11⟩⟩
theorem call_of {cl nu ki ke va cx be en ov st go ne sf0 sf1 ake aye ave vk vst vva vcl vca vde vg0 vg1 vf0 vf1 vf2 vf3 dg0 dg1 df0 df1 : Field} {ie_ de_ ae_ : TypeId} (hs : IsCall P t cl nu ki ke va cx be en ov st go ne sf0 sf1 ake aye ave vk vst vva vcl vca vde vg0 vg1 vf0 vf1 vf2 vf3 dg0 dg1 df0 df1 ie_ de_ ae_ e) (hv : Value.okWide P w r b0 t v) (h : DataW.Trod enc P w base spare held t v d p) :
    ∃ x : Mc, v = .agg #[.int .i64 x.client, .int .i64 x.num, .int .i64 x.kind, .slice x.ka x.keys.length x.kc, .int .i64 x.val, .slice x.xa x.ctx.length x.xc, .int .i64 x.beg, .int .i64 x.fin, .bool x.over, .int .i64 x.time, .int .i64 x.site, .slice x.ga x.got.length x.gc, .slice x.na x.needs.length x.nc] ∧ CallIn w x := by
  obtain ⟨cs, rfl, hsz⟩ := okWide_struct hs.under hv
  obtain ⟨fuel, hf⟩ := h
  obtain ⟨m, ha, hb⟩ := call_cells hs hf
  refine ⟨m, ?_, hb⟩
  obtain ⟨l⟩ := cs
  simp [Value.cells, callC] at ha
  rw [ha]
end
theorem isAnsL : ∃ ke ye ve vk vst vva vcl vca vde vg0 vg1 vf0 vf1 vf2 vf3 e, IsAns Try.prog 144 ke ye ve vk vst vva vcl vca vde vg0 vg1 vf0 vf1 vf2 vf3 e := by
  obtain ⟨_, _, _, _, _, _, _, _, _, _, _, _, _, hv⟩ := isVerL
  exact ⟨_, _, _, _, _, _, _, _, _, _, _, _, _, _, _, _, Try.underlying144, by kernel_rfl, rfl, rfl, rfl, Try.underlying3, by kernel_rfl, Try.underlying4, by kernel_rfl, hv⟩
theorem isCallL : ∃ cl nu ki ke va cx be en ov st go ne sf0 sf1 ake aye ave vk vst vva vcl vca vde vg0 vg1 vf0 vf1 vf2 vf3 dg0 dg1 df0 df1 ie_ de_ ae_ e, IsCall Try.prog 68 cl nu ki ke va cx be en ov st go ne sf0 sf1 ake aye ave vk vst vva vcl vca vde vg0 vg1 vf0 vf1 vf2 vf3 dg0 dg1 df0 df1 ie_ de_ ae_ e := by
  obtain ⟨f0, f1, hs⟩ := isStampL
  obtain ⟨_, _, _, _, hd⟩ := isDepL
  obtain ⟨_, _, _, _, _, _, _, _, _, _, _, _, _, _, _, _, ha⟩ := isAnsL
  refine ⟨_, _, _, _, _, _, _, _, _, _, _, _, f0, f1, _, _, _, _, _, _, _, _, _, _, _, _, _, _, _, _, _, _, _, 3, 138, 144, _, Try.underlying68, by kernel_rfl, rfl, Try.underlying3, by kernel_rfl, rfl, Try.underlying3, by kernel_rfl, rfl, Try.underlying3, by kernel_rfl, rfl, Try.underlying65, by kernel_rfl, rfl, Try.underlying3, by kernel_rfl, rfl, Try.underlying52, by kernel_rfl, rfl, Try.underlying3, by kernel_rfl, rfl, Try.underlying3, by kernel_rfl, rfl, Try.underlying4, by kernel_rfl, rfl, hs, rfl, Try.underlying66, by kernel_rfl, rfl, Try.underlying52, by kernel_rfl, Try.underlying3, by kernel_rfl, hd, ha⟩
end Go.Proofs.Ythciikogogkfcaa
