/- Words handed over, counted and compared by the laws' own functions. -/
import Derived.Test.YtiigdbmfpibbdaaWordP
import Derived.Test.YtiigdbmfpibbdaaConvVS
namespace Go.Proofs.Ytiigdbmfpibbdaa
open Go.RowKit Go.Deep
set_option linter.unusedVariables false

theorem Blk.wput0 {w : World} {b : Nat} {x0 x1 x2 x3 x4 x5 x6 x7 x8 x9 x10 x11 x12 x13 x14 : Value} {T : TypeId} (h : Blk w b #[x0, x1, x2, x3, x4, x5, x6, x7, x8, x9, x10, x11, x12, x13, x14] T) (y : Value) : Blk (w.setCell ⟨b, 0, none⟩ y) b #[y, x1, x2, x3, x4, x5, x6, x7, x8, x9, x10, x11, x12, x13, x14] T := h.set 0 y
theorem Blk.wput1 {w : World} {b : Nat} {x0 x1 x2 x3 x4 x5 x6 x7 x8 x9 x10 x11 x12 x13 x14 : Value} {T : TypeId} (h : Blk w b #[x0, x1, x2, x3, x4, x5, x6, x7, x8, x9, x10, x11, x12, x13, x14] T) (y : Value) : Blk (w.setCell ⟨b, 1, none⟩ y) b #[x0, y, x2, x3, x4, x5, x6, x7, x8, x9, x10, x11, x12, x13, x14] T := h.set 1 y
theorem Blk.wput2 {w : World} {b : Nat} {x0 x1 x2 x3 x4 x5 x6 x7 x8 x9 x10 x11 x12 x13 x14 : Value} {T : TypeId} (h : Blk w b #[x0, x1, x2, x3, x4, x5, x6, x7, x8, x9, x10, x11, x12, x13, x14] T) (y : Value) : Blk (w.setCell ⟨b, 2, none⟩ y) b #[x0, x1, y, x3, x4, x5, x6, x7, x8, x9, x10, x11, x12, x13, x14] T := h.set 2 y
theorem Blk.wput3 {w : World} {b : Nat} {x0 x1 x2 x3 x4 x5 x6 x7 x8 x9 x10 x11 x12 x13 x14 : Value} {T : TypeId} (h : Blk w b #[x0, x1, x2, x3, x4, x5, x6, x7, x8, x9, x10, x11, x12, x13, x14] T) (y : Value) : Blk (w.setCell ⟨b, 3, none⟩ y) b #[x0, x1, x2, y, x4, x5, x6, x7, x8, x9, x10, x11, x12, x13, x14] T := h.set 3 y
theorem Blk.wput4 {w : World} {b : Nat} {x0 x1 x2 x3 x4 x5 x6 x7 x8 x9 x10 x11 x12 x13 x14 : Value} {T : TypeId} (h : Blk w b #[x0, x1, x2, x3, x4, x5, x6, x7, x8, x9, x10, x11, x12, x13, x14] T) (y : Value) : Blk (w.setCell ⟨b, 4, none⟩ y) b #[x0, x1, x2, x3, y, x5, x6, x7, x8, x9, x10, x11, x12, x13, x14] T := h.set 4 y
theorem Blk.wput5 {w : World} {b : Nat} {x0 x1 x2 x3 x4 x5 x6 x7 x8 x9 x10 x11 x12 x13 x14 : Value} {T : TypeId} (h : Blk w b #[x0, x1, x2, x3, x4, x5, x6, x7, x8, x9, x10, x11, x12, x13, x14] T) (y : Value) : Blk (w.setCell ⟨b, 5, none⟩ y) b #[x0, x1, x2, x3, x4, y, x6, x7, x8, x9, x10, x11, x12, x13, x14] T := h.set 5 y
theorem Blk.wput6 {w : World} {b : Nat} {x0 x1 x2 x3 x4 x5 x6 x7 x8 x9 x10 x11 x12 x13 x14 : Value} {T : TypeId} (h : Blk w b #[x0, x1, x2, x3, x4, x5, x6, x7, x8, x9, x10, x11, x12, x13, x14] T) (y : Value) : Blk (w.setCell ⟨b, 6, none⟩ y) b #[x0, x1, x2, x3, x4, x5, y, x7, x8, x9, x10, x11, x12, x13, x14] T := h.set 6 y
theorem Blk.wput7 {w : World} {b : Nat} {x0 x1 x2 x3 x4 x5 x6 x7 x8 x9 x10 x11 x12 x13 x14 : Value} {T : TypeId} (h : Blk w b #[x0, x1, x2, x3, x4, x5, x6, x7, x8, x9, x10, x11, x12, x13, x14] T) (y : Value) : Blk (w.setCell ⟨b, 7, none⟩ y) b #[x0, x1, x2, x3, x4, x5, x6, y, x8, x9, x10, x11, x12, x13, x14] T := h.set 7 y
theorem Blk.wput8 {w : World} {b : Nat} {x0 x1 x2 x3 x4 x5 x6 x7 x8 x9 x10 x11 x12 x13 x14 : Value} {T : TypeId} (h : Blk w b #[x0, x1, x2, x3, x4, x5, x6, x7, x8, x9, x10, x11, x12, x13, x14] T) (y : Value) : Blk (w.setCell ⟨b, 8, none⟩ y) b #[x0, x1, x2, x3, x4, x5, x6, x7, y, x9, x10, x11, x12, x13, x14] T := h.set 8 y
theorem Blk.wput9 {w : World} {b : Nat} {x0 x1 x2 x3 x4 x5 x6 x7 x8 x9 x10 x11 x12 x13 x14 : Value} {T : TypeId} (h : Blk w b #[x0, x1, x2, x3, x4, x5, x6, x7, x8, x9, x10, x11, x12, x13, x14] T) (y : Value) : Blk (w.setCell ⟨b, 9, none⟩ y) b #[x0, x1, x2, x3, x4, x5, x6, x7, x8, y, x10, x11, x12, x13, x14] T := h.set 9 y
theorem Blk.wput10 {w : World} {b : Nat} {x0 x1 x2 x3 x4 x5 x6 x7 x8 x9 x10 x11 x12 x13 x14 : Value} {T : TypeId} (h : Blk w b #[x0, x1, x2, x3, x4, x5, x6, x7, x8, x9, x10, x11, x12, x13, x14] T) (y : Value) : Blk (w.setCell ⟨b, 10, none⟩ y) b #[x0, x1, x2, x3, x4, x5, x6, x7, x8, x9, y, x11, x12, x13, x14] T := h.set 10 y
theorem Blk.wput11 {w : World} {b : Nat} {x0 x1 x2 x3 x4 x5 x6 x7 x8 x9 x10 x11 x12 x13 x14 : Value} {T : TypeId} (h : Blk w b #[x0, x1, x2, x3, x4, x5, x6, x7, x8, x9, x10, x11, x12, x13, x14] T) (y : Value) : Blk (w.setCell ⟨b, 11, none⟩ y) b #[x0, x1, x2, x3, x4, x5, x6, x7, x8, x9, x10, y, x12, x13, x14] T := h.set 11 y
theorem Blk.wput12 {w : World} {b : Nat} {x0 x1 x2 x3 x4 x5 x6 x7 x8 x9 x10 x11 x12 x13 x14 : Value} {T : TypeId} (h : Blk w b #[x0, x1, x2, x3, x4, x5, x6, x7, x8, x9, x10, x11, x12, x13, x14] T) (y : Value) : Blk (w.setCell ⟨b, 12, none⟩ y) b #[x0, x1, x2, x3, x4, x5, x6, x7, x8, x9, x10, x11, y, x13, x14] T := h.set 12 y
theorem Blk.wput13 {w : World} {b : Nat} {x0 x1 x2 x3 x4 x5 x6 x7 x8 x9 x10 x11 x12 x13 x14 : Value} {T : TypeId} (h : Blk w b #[x0, x1, x2, x3, x4, x5, x6, x7, x8, x9, x10, x11, x12, x13, x14] T) (y : Value) : Blk (w.setCell ⟨b, 13, none⟩ y) b #[x0, x1, x2, x3, x4, x5, x6, x7, x8, x9, x10, x11, x12, y, x14] T := h.set 13 y
theorem Blk.wput14 {w : World} {b : Nat} {x0 x1 x2 x3 x4 x5 x6 x7 x8 x9 x10 x11 x12 x13 x14 : Value} {T : TypeId} (h : Blk w b #[x0, x1, x2, x3, x4, x5, x6, x7, x8, x9, x10, x11, x12, x13, x14] T) (y : Value) : Blk (w.setCell ⟨b, 14, none⟩ y) b #[x0, x1, x2, x3, x4, x5, x6, x7, x8, x9, x10, x11, x12, x13, y] T := h.set 14 y
/-- A word comes back: the same, its lists in other places. -/
def ToWord (x : Mw) (w : World) (e : Ending) (w' : World) : Prop := ∃ (A B : List Mv) (p1 pa pb p2 : Option Addr) (c1 ca cb c2 : Nat), e = .returned (.agg #[.int .i64 x.kind, .int .i64 x.frm, .int .i64 x.to, .int .i64 x.call, .int .i64 x.key, .int .i64 x.time, .int .i64 x.site, .int .i64 x.val, .bool x.yes, .slice p1 x.deps.length c1, .int .i64 x.slot, .int .i64 x.epoch, .slice pa A.length ca, .slice pb B.length cb, .slice p2 x.owes.length c2]) ∧ vs A = vs x.vers ∧ vs B = vs x.waits ∧
  Reads w' p1 x.deps.length c1 (dpsC x.deps) ∧ Vers w' pa ca A ∧ Vers w' pb cb B ∧ Reads w' p2 x.owes.length c2 (dpsC x.owes) ∧ Below w.heap.size w w'
theorem OwnVers.setn {N b o : Nat} {w : World} {v : Value} {l : List Mv} (h : OwnVers N w v l) (hb : b < N) (u : Value) : OwnVers N (w.setCell ⟨b, o, none⟩ u) v l :=
  ⟨own_set h.own (own_ne' h.own hb) u, h.inn.set hb u⟩
set_option maxRecDepth 100000 in
set_option maxHeartbeats 4000000 in
theorem toWord_laws (x : Mw) (w : World) (hin : WordIn w x) (hf : FewW x) :
    Calls Try.prog 56 #[.agg #[.int .i64 x.kind, .int .i64 x.frm, .int .i64 x.to, .int .i64 x.call, .int .i64 x.key, .int .i64 x.time, .int .i64 x.site, .int .i64 x.val, .bool x.yes, .slice x.da x.deps.length x.dc, .int .i64 x.slot, .int .i64 x.epoch, .slice x.va x.vers.length x.vc, .slice x.wa x.waits.length x.wc, .slice x.oa x.owes.length x.oc]] w (ToWord x w) := by
  have C1 := ((Blk.new w #[.int .i64 x.kind, .int .i64 x.frm, .int .i64 x.to, .int .i64 x.call, .int .i64 x.key, .int .i64 x.time, .int .i64 x.site, .int .i64 x.val, .bool x.yes, .slice x.da x.deps.length x.dc, .int .i64 x.slot, .int .i64 x.epoch, .slice x.va x.vers.length x.vc, .slice x.wa x.waits.length x.wc, .slice x.oa x.owes.length x.oc] 74).alloc (.cells #[.int .i64 0, .int .i64 0, .int .i64 0, .int .i64 0, .int .i64 0, .int .i64 0, .int .i64 0, .int .i64 0, .bool false, .slice none 0 0, .int .i64 0, .int .i64 0, .slice none 0 0, .slice none 0 0, .slice none 0 0] 78)).alloc (.cells #[.int .i64 x.kind, .int .i64 x.frm, .int .i64 x.to, .int .i64 x.call, .int .i64 x.key, .int .i64 0, .int .i64 0, .int .i64 0, .bool false, .slice none 0 0, .int .i64 0, .int .i64 0, .slice none 0 0, .slice none 0 0, .slice none 0 0] 78)
  have C2 := (Blk.new (w.alloc (.cells #[.int .i64 x.kind, .int .i64 x.frm, .int .i64 x.to, .int .i64 x.call, .int .i64 x.key, .int .i64 x.time, .int .i64 x.site, .int .i64 x.val, .bool x.yes, .slice x.da x.deps.length x.dc, .int .i64 x.slot, .int .i64 x.epoch, .slice x.va x.vers.length x.vc, .slice x.wa x.waits.length x.wc, .slice x.oa x.owes.length x.oc] 74)) #[.int .i64 0, .int .i64 0, .int .i64 0, .int .i64 0, .int .i64 0, .int .i64 0, .int .i64 0, .int .i64 0, .bool false, .slice none 0 0, .int .i64 0, .int .i64 0, .slice none 0 0, .slice none 0 0, .slice none 0 0] 78).alloc (.cells #[.int .i64 x.kind, .int .i64 x.frm, .int .i64 x.to, .int .i64 x.call, .int .i64 x.key, .int .i64 0, .int .i64 0, .int .i64 0, .bool false, .slice none 0 0, .int .i64 0, .int .i64 0, .slice none 0 0, .slice none 0 0, .slice none 0 0] 78)
  have C3 := Blk.new ((w.alloc (.cells #[.int .i64 x.kind, .int .i64 x.frm, .int .i64 x.to, .int .i64 x.call, .int .i64 x.key, .int .i64 x.time, .int .i64 x.site, .int .i64 x.val, .bool x.yes, .slice x.da x.deps.length x.dc, .int .i64 x.slot, .int .i64 x.epoch, .slice x.va x.vers.length x.vc, .slice x.wa x.waits.length x.wc, .slice x.oa x.owes.length x.oc] 74)).alloc (.cells #[.int .i64 0, .int .i64 0, .int .i64 0, .int .i64 0, .int .i64 0, .int .i64 0, .int .i64 0, .int .i64 0, .bool false, .slice none 0 0, .int .i64 0, .int .i64 0, .slice none 0 0, .slice none 0 0, .slice none 0 0] 78)) #[.int .i64 x.kind, .int .i64 x.frm, .int .i64 x.to, .int .i64 x.call, .int .i64 x.key, .int .i64 0, .int .i64 0, .int .i64 0, .bool false, .slice none 0 0, .int .i64 0, .int .i64 0, .slice none 0 0, .slice none 0 0, .slice none 0 0] 78
  simp only [World.size_alloc] at C2 C3
  have G := below_alloc (below_alloc (below_alloc (Below.refl _ w) (.cells #[.int .i64 x.kind, .int .i64 x.frm, .int .i64 x.to, .int .i64 x.call, .int .i64 x.key, .int .i64 x.time, .int .i64 x.site, .int .i64 x.val, .bool x.yes, .slice x.da x.deps.length x.dc, .int .i64 x.slot, .int .i64 x.epoch, .slice x.va x.vers.length x.vc, .slice x.wa x.waits.length x.wc, .slice x.oa x.owes.length x.oc] 74)) (.cells #[.int .i64 0, .int .i64 0, .int .i64 0, .int .i64 0, .int .i64 0, .int .i64 0, .int .i64 0, .int .i64 0, .bool false, .slice none 0 0, .int .i64 0, .int .i64 0, .slice none 0 0, .slice none 0 0, .slice none 0 0] 78)) (.cells #[.int .i64 x.kind, .int .i64 x.frm, .int .i64 x.to, .int .i64 x.call, .int .i64 x.key, .int .i64 0, .int .i64 0, .int .i64 0, .bool false, .slice none 0 0, .int .i64 0, .int .i64 0, .slice none 0 0, .slice none 0 0, .slice none 0 0] 78)
  have n1 : w.heap.size ≠ w.heap.size + 1 + 1 := by omega
  have n2 : w.heap.size + 1 ≠ w.heap.size + 1 + 1 := by omega
  have n3 : w.heap.size + 1 + 1 ≠ w.heap.size + 1 := by omega
  have hle : w.heap.size ≤ w.heap.size + 1 + 1 := by omega
  go_enter Try.func56, Try.ntmps56
  go_wp2_with fail
  refine (toStamp_laws _ _ _).mono ?_
  rintro e w1 ⟨rfl, hb1⟩
  have C1 := C1.below hb1 C1.lt
  have C2 := C2.below hb1 C2.lt
  have C3 := C3.below hb1 C3.lt
  have G := below_after G hb1
  obtain ⟨q0, q1, q2, q3, q4, q5, q6, q7, q8, q9, q10, q11, q12, q13, q14, qf, ql⟩ := C1.word
  obtain ⟨k0, k1, k2, k3, k4, k5, k6, k7, k8, k9, k10, k11, k12, k13, k14, kf, kl⟩ := C3.word
  have szW := C3.lt
  have C1 := ((((C1.setb (b' := w.heap.size + 1 + 1) (o := 5) n1 (.int .i64 x.time)).setb (b' := w.heap.size + 1 + 1) (o := 6) n1 (.int .i64 x.site)).setb (b' := w.heap.size + 1 + 1) (o := 7) n1 (.int .i64 x.val)).setb (b' := w.heap.size + 1 + 1) (o := 8) n1 (.bool x.yes))
  have C2 := ((((C2.setb (b' := w.heap.size + 1 + 1) (o := 5) n2 (.int .i64 x.time)).setb (b' := w.heap.size + 1 + 1) (o := 6) n2 (.int .i64 x.site)).setb (b' := w.heap.size + 1 + 1) (o := 7) n2 (.int .i64 x.val)).setb (b' := w.heap.size + 1 + 1) (o := 8) n2 (.bool x.yes))
  have G9 := G
  have G := (below_setb (below_setb (below_setb (below_setb G (b := w.heap.size + 1 + 1) (o := 5) hle (.int .i64 x.time)) (b := w.heap.size + 1 + 1) (o := 6) hle (.int .i64 x.site)) (b := w.heap.size + 1 + 1) (o := 7) hle (.int .i64 x.val)) (b := w.heap.size + 1 + 1) (o := 8) hle (.bool x.yes))
  have C3 := ((((C3.wput5 (.int .i64 x.time)).wput6 (.int .i64 x.site)).wput7 (.int .i64 x.val)).wput8 (.bool x.yes))
  go_wp2_with fail
  refine (toDepS_laws x.deps x.da x.dc _ (hin.dp.below G) hf.dp).mono ?_
  rintro e w2 ⟨u2, rfl, o1, hb2⟩
  obtain ⟨p1, c1, rfl, rd2⟩ := Reads.of_owns o1
  have o1 := own_base o1 (show w.heap.size + 1 + 1 + 1 ≤ _ by have := C3.lt; omega)
  have C1 := C1.below hb2 C1.lt
  have C2 := C2.below hb2 C2.lt
  have C3 := C3.below hb2 C3.lt
  have G := below_after G hb2
  clear q0 q1 q2 q3 q4 q5 q6 q7 q8 q9 q10 q11 q12 q13 q14 qf ql k0 k1 k2 k3 k4 k5 k6 k7 k8 k9 k10 k11 k12 k13 k14 kf kl
  obtain ⟨q0, q1, q2, q3, q4, q5, q6, q7, q8, q9, q10, q11, q12, q13, q14, qf, ql⟩ := C1.word
  obtain ⟨k0, k1, k2, k3, k4, k5, k6, k7, k8, k9, k10, k11, k12, k13, k14, kf, kl⟩ := C3.word
  have C1 := (((C1.setb (b' := w.heap.size + 1 + 1) (o := 9) n1 (.slice p1 x.deps.length c1)).setb (b' := w.heap.size + 1 + 1) (o := 10) n1 (.int .i64 x.slot)).setb (b' := w.heap.size + 1 + 1) (o := 11) n1 (.int .i64 x.epoch))
  have C2 := (((C2.setb (b' := w.heap.size + 1 + 1) (o := 9) n2 (.slice p1 x.deps.length c1)).setb (b' := w.heap.size + 1 + 1) (o := 10) n2 (.int .i64 x.slot)).setb (b' := w.heap.size + 1 + 1) (o := 11) n2 (.int .i64 x.epoch))
  have G9 := G
  have G := (below_setb (below_setb (below_setb G (b := w.heap.size + 1 + 1) (o := 9) hle (.slice p1 x.deps.length c1)) (b := w.heap.size + 1 + 1) (o := 10) hle (.int .i64 x.slot)) (b := w.heap.size + 1 + 1) (o := 11) hle (.int .i64 x.epoch))
  have o1 := (own_set (own_set (own_set o1 (own_ne' o1 (b := w.heap.size + 1 + 1) (by omega)) (o := 9) (.slice p1 x.deps.length c1)) (own_ne' o1 (b := w.heap.size + 1 + 1) (by omega)) (o := 10) (.int .i64 x.slot)) (own_ne' o1 (b := w.heap.size + 1 + 1) (by omega)) (o := 11) (.int .i64 x.epoch))
  have C3 := (((C3.wput9 (.slice p1 x.deps.length c1)).wput10 (.int .i64 x.slot)).wput11 (.int .i64 x.epoch))
  go_wp2_with fail
  refine (toVerS_laws x.vers x.va x.vc _ (hin.vr.below G) hf.vr).mono ?_
  rintro e w3 ⟨u3, A, rfl, hA, v1, hb3⟩
  obtain ⟨pa, ca, rfl, vv3⟩ := v1.open_
  have hA := Lib.hid hA
  have v1 := v1.base (show w.heap.size + 1 + 1 + 1 ≤ _ by have := C3.lt; omega)
  have C1 := C1.below hb3 C1.lt
  have C2 := C2.below hb3 C2.lt
  have C3 := C3.below hb3 C3.lt
  have G := below_after G hb3
  have o1 := own_below o1 hb3
  clear q0 q1 q2 q3 q4 q5 q6 q7 q8 q9 q10 q11 q12 q13 q14 qf ql k0 k1 k2 k3 k4 k5 k6 k7 k8 k9 k10 k11 k12 k13 k14 kf kl
  obtain ⟨q0, q1, q2, q3, q4, q5, q6, q7, q8, q9, q10, q11, q12, q13, q14, qf, ql⟩ := C1.word
  obtain ⟨k0, k1, k2, k3, k4, k5, k6, k7, k8, k9, k10, k11, k12, k13, k14, kf, kl⟩ := C3.word
  have C1 := (C1.setb (b' := w.heap.size + 1 + 1) (o := 12) n1 (.slice pa A.length ca))
  have C2 := (C2.setb (b' := w.heap.size + 1 + 1) (o := 12) n2 (.slice pa A.length ca))
  have G9 := G
  have G := (below_setb G (b := w.heap.size + 1 + 1) (o := 12) hle (.slice pa A.length ca))
  have o1 := (own_set o1 (own_ne' o1 (b := w.heap.size + 1 + 1) (by omega)) (o := 12) (.slice pa A.length ca))
  have v1 := (OwnVers.setn v1 (b := w.heap.size + 1 + 1) (o := 12) (by omega) (.slice pa A.length ca))
  have C3 := (C3.wput12 (.slice pa A.length ca))
  go_wp2_with fail
  refine (toVerS_laws x.waits x.wa x.wc _ (hin.wt.below G) hf.wt).mono ?_
  rintro e w4 ⟨u4, B, rfl, hB, v2, hb4⟩
  obtain ⟨pb, cb, rfl, vv4⟩ := v2.open_
  have hB := Lib.hid hB
  have v2 := v2.base (show w.heap.size + 1 + 1 + 1 ≤ _ by have := C3.lt; omega)
  have C1 := C1.below hb4 C1.lt
  have C2 := C2.below hb4 C2.lt
  have C3 := C3.below hb4 C3.lt
  have G := below_after G hb4
  have o1 := own_below o1 hb4
  have v1 := v1.below hb4
  clear q0 q1 q2 q3 q4 q5 q6 q7 q8 q9 q10 q11 q12 q13 q14 qf ql k0 k1 k2 k3 k4 k5 k6 k7 k8 k9 k10 k11 k12 k13 k14 kf kl
  obtain ⟨q0, q1, q2, q3, q4, q5, q6, q7, q8, q9, q10, q11, q12, q13, q14, qf, ql⟩ := C1.word
  obtain ⟨k0, k1, k2, k3, k4, k5, k6, k7, k8, k9, k10, k11, k12, k13, k14, kf, kl⟩ := C3.word
  have C1 := (C1.setb (b' := w.heap.size + 1 + 1) (o := 13) n1 (.slice pb B.length cb))
  have C2 := (C2.setb (b' := w.heap.size + 1 + 1) (o := 13) n2 (.slice pb B.length cb))
  have G9 := G
  have G := (below_setb G (b := w.heap.size + 1 + 1) (o := 13) hle (.slice pb B.length cb))
  have o1 := (own_set o1 (own_ne' o1 (b := w.heap.size + 1 + 1) (by omega)) (o := 13) (.slice pb B.length cb))
  have v1 := (OwnVers.setn v1 (b := w.heap.size + 1 + 1) (o := 13) (by omega) (.slice pb B.length cb))
  have v2 := (OwnVers.setn v2 (b := w.heap.size + 1 + 1) (o := 13) (by omega) (.slice pb B.length cb))
  have C3 := (C3.wput13 (.slice pb B.length cb))
  go_wp2_with fail
  refine (toDepS_laws x.owes x.oa x.oc _ (hin.ow.below G) hf.ow).mono ?_
  rintro e w5 ⟨u5, rfl, o2, hb5⟩
  obtain ⟨p2, c2, rfl, rd5⟩ := Reads.of_owns o2
  have o2 := own_base o2 (show w.heap.size + 1 + 1 + 1 ≤ _ by have := C3.lt; omega)
  have C1 := C1.below hb5 C1.lt
  have C2 := C2.below hb5 C2.lt
  have C3 := C3.below hb5 C3.lt
  have G := below_after G hb5
  have o1 := own_below o1 hb5
  have v1 := v1.below hb5
  have v2 := v2.below hb5
  clear q0 q1 q2 q3 q4 q5 q6 q7 q8 q9 q10 q11 q12 q13 q14 qf ql k0 k1 k2 k3 k4 k5 k6 k7 k8 k9 k10 k11 k12 k13 k14 kf kl
  obtain ⟨q0, q1, q2, q3, q4, q5, q6, q7, q8, q9, q10, q11, q12, q13, q14, qf, ql⟩ := C1.word
  obtain ⟨k0, k1, k2, k3, k4, k5, k6, k7, k8, k9, k10, k11, k12, k13, k14, kf, kl⟩ := C3.word
  have C3a := C3
  have C1 := (C1.setb (b' := w.heap.size + 1 + 1) (o := 14) n1 (.slice p2 x.owes.length c2))
  have C2 := (C2.setb (b' := w.heap.size + 1 + 1) (o := 14) n2 (.slice p2 x.owes.length c2))
  have G9 := G
  have G := (below_setb G (b := w.heap.size + 1 + 1) (o := 14) hle (.slice p2 x.owes.length c2))
  have o1 := (own_set o1 (own_ne' o1 (b := w.heap.size + 1 + 1) (by omega)) (o := 14) (.slice p2 x.owes.length c2))
  have v1 := (OwnVers.setn v1 (b := w.heap.size + 1 + 1) (o := 14) (by omega) (.slice p2 x.owes.length c2))
  have v2 := (OwnVers.setn v2 (b := w.heap.size + 1 + 1) (o := 14) (by omega) (.slice p2 x.owes.length c2))
  have o2 := (own_set o2 (own_ne' o2 (b := w.heap.size + 1 + 1) (by omega)) (o := 14) (.slice p2 x.owes.length c2))
  have C3 := (C3.wput14 (.slice p2 x.owes.length c2))
  have o1 := (own_set (own_set (own_set (own_set (own_set (own_set (own_set (own_set (own_set (own_set (own_set (own_set (own_set (own_set (own_set o1 (own_ne' o1 (b := w.heap.size + 1) (by omega)) (o := 0) (.int .i64 x.kind)) (own_ne' o1 (b := w.heap.size + 1) (by omega)) (o := 1) (.int .i64 x.frm)) (own_ne' o1 (b := w.heap.size + 1) (by omega)) (o := 2) (.int .i64 x.to)) (own_ne' o1 (b := w.heap.size + 1) (by omega)) (o := 3) (.int .i64 x.call)) (own_ne' o1 (b := w.heap.size + 1) (by omega)) (o := 4) (.int .i64 x.key)) (own_ne' o1 (b := w.heap.size + 1) (by omega)) (o := 5) (.int .i64 x.time)) (own_ne' o1 (b := w.heap.size + 1) (by omega)) (o := 6) (.int .i64 x.site)) (own_ne' o1 (b := w.heap.size + 1) (by omega)) (o := 7) (.int .i64 x.val)) (own_ne' o1 (b := w.heap.size + 1) (by omega)) (o := 8) (.bool x.yes)) (own_ne' o1 (b := w.heap.size + 1) (by omega)) (o := 9) (.slice p1 x.deps.length c1)) (own_ne' o1 (b := w.heap.size + 1) (by omega)) (o := 10) (.int .i64 x.slot)) (own_ne' o1 (b := w.heap.size + 1) (by omega)) (o := 11) (.int .i64 x.epoch)) (own_ne' o1 (b := w.heap.size + 1) (by omega)) (o := 12) (.slice pa A.length ca)) (own_ne' o1 (b := w.heap.size + 1) (by omega)) (o := 13) (.slice pb B.length cb)) (own_ne' o1 (b := w.heap.size + 1) (by omega)) (o := 14) (.slice p2 x.owes.length c2))
  have v1 := (OwnVers.setn (OwnVers.setn (OwnVers.setn (OwnVers.setn (OwnVers.setn (OwnVers.setn (OwnVers.setn (OwnVers.setn (OwnVers.setn (OwnVers.setn (OwnVers.setn (OwnVers.setn (OwnVers.setn (OwnVers.setn (OwnVers.setn v1 (b := w.heap.size + 1) (o := 0) (by omega) (.int .i64 x.kind)) (b := w.heap.size + 1) (o := 1) (by omega) (.int .i64 x.frm)) (b := w.heap.size + 1) (o := 2) (by omega) (.int .i64 x.to)) (b := w.heap.size + 1) (o := 3) (by omega) (.int .i64 x.call)) (b := w.heap.size + 1) (o := 4) (by omega) (.int .i64 x.key)) (b := w.heap.size + 1) (o := 5) (by omega) (.int .i64 x.time)) (b := w.heap.size + 1) (o := 6) (by omega) (.int .i64 x.site)) (b := w.heap.size + 1) (o := 7) (by omega) (.int .i64 x.val)) (b := w.heap.size + 1) (o := 8) (by omega) (.bool x.yes)) (b := w.heap.size + 1) (o := 9) (by omega) (.slice p1 x.deps.length c1)) (b := w.heap.size + 1) (o := 10) (by omega) (.int .i64 x.slot)) (b := w.heap.size + 1) (o := 11) (by omega) (.int .i64 x.epoch)) (b := w.heap.size + 1) (o := 12) (by omega) (.slice pa A.length ca)) (b := w.heap.size + 1) (o := 13) (by omega) (.slice pb B.length cb)) (b := w.heap.size + 1) (o := 14) (by omega) (.slice p2 x.owes.length c2))
  have v2 := (OwnVers.setn (OwnVers.setn (OwnVers.setn (OwnVers.setn (OwnVers.setn (OwnVers.setn (OwnVers.setn (OwnVers.setn (OwnVers.setn (OwnVers.setn (OwnVers.setn (OwnVers.setn (OwnVers.setn (OwnVers.setn (OwnVers.setn v2 (b := w.heap.size + 1) (o := 0) (by omega) (.int .i64 x.kind)) (b := w.heap.size + 1) (o := 1) (by omega) (.int .i64 x.frm)) (b := w.heap.size + 1) (o := 2) (by omega) (.int .i64 x.to)) (b := w.heap.size + 1) (o := 3) (by omega) (.int .i64 x.call)) (b := w.heap.size + 1) (o := 4) (by omega) (.int .i64 x.key)) (b := w.heap.size + 1) (o := 5) (by omega) (.int .i64 x.time)) (b := w.heap.size + 1) (o := 6) (by omega) (.int .i64 x.site)) (b := w.heap.size + 1) (o := 7) (by omega) (.int .i64 x.val)) (b := w.heap.size + 1) (o := 8) (by omega) (.bool x.yes)) (b := w.heap.size + 1) (o := 9) (by omega) (.slice p1 x.deps.length c1)) (b := w.heap.size + 1) (o := 10) (by omega) (.int .i64 x.slot)) (b := w.heap.size + 1) (o := 11) (by omega) (.int .i64 x.epoch)) (b := w.heap.size + 1) (o := 12) (by omega) (.slice pa A.length ca)) (b := w.heap.size + 1) (o := 13) (by omega) (.slice pb B.length cb)) (b := w.heap.size + 1) (o := 14) (by omega) (.slice p2 x.owes.length c2))
  have o2 := (own_set (own_set (own_set (own_set (own_set (own_set (own_set (own_set (own_set (own_set (own_set (own_set (own_set (own_set (own_set o2 (own_ne' o2 (b := w.heap.size + 1) (by omega)) (o := 0) (.int .i64 x.kind)) (own_ne' o2 (b := w.heap.size + 1) (by omega)) (o := 1) (.int .i64 x.frm)) (own_ne' o2 (b := w.heap.size + 1) (by omega)) (o := 2) (.int .i64 x.to)) (own_ne' o2 (b := w.heap.size + 1) (by omega)) (o := 3) (.int .i64 x.call)) (own_ne' o2 (b := w.heap.size + 1) (by omega)) (o := 4) (.int .i64 x.key)) (own_ne' o2 (b := w.heap.size + 1) (by omega)) (o := 5) (.int .i64 x.time)) (own_ne' o2 (b := w.heap.size + 1) (by omega)) (o := 6) (.int .i64 x.site)) (own_ne' o2 (b := w.heap.size + 1) (by omega)) (o := 7) (.int .i64 x.val)) (own_ne' o2 (b := w.heap.size + 1) (by omega)) (o := 8) (.bool x.yes)) (own_ne' o2 (b := w.heap.size + 1) (by omega)) (o := 9) (.slice p1 x.deps.length c1)) (own_ne' o2 (b := w.heap.size + 1) (by omega)) (o := 10) (.int .i64 x.slot)) (own_ne' o2 (b := w.heap.size + 1) (by omega)) (o := 11) (.int .i64 x.epoch)) (own_ne' o2 (b := w.heap.size + 1) (by omega)) (o := 12) (.slice pa A.length ca)) (own_ne' o2 (b := w.heap.size + 1) (by omega)) (o := 13) (.slice pb B.length cb)) (own_ne' o2 (b := w.heap.size + 1) (by omega)) (o := 14) (.slice p2 x.owes.length c2))
  have G := (below_setb (below_setb (below_setb (below_setb (below_setb (below_setb (below_setb (below_setb (below_setb (below_setb (below_setb (below_setb (below_setb (below_setb (below_setb G (b := w.heap.size + 1) (o := 0) (Nat.le_succ _) (.int .i64 x.kind)) (b := w.heap.size + 1) (o := 1) (Nat.le_succ _) (.int .i64 x.frm)) (b := w.heap.size + 1) (o := 2) (Nat.le_succ _) (.int .i64 x.to)) (b := w.heap.size + 1) (o := 3) (Nat.le_succ _) (.int .i64 x.call)) (b := w.heap.size + 1) (o := 4) (Nat.le_succ _) (.int .i64 x.key)) (b := w.heap.size + 1) (o := 5) (Nat.le_succ _) (.int .i64 x.time)) (b := w.heap.size + 1) (o := 6) (Nat.le_succ _) (.int .i64 x.site)) (b := w.heap.size + 1) (o := 7) (Nat.le_succ _) (.int .i64 x.val)) (b := w.heap.size + 1) (o := 8) (Nat.le_succ _) (.bool x.yes)) (b := w.heap.size + 1) (o := 9) (Nat.le_succ _) (.slice p1 x.deps.length c1)) (b := w.heap.size + 1) (o := 10) (Nat.le_succ _) (.int .i64 x.slot)) (b := w.heap.size + 1) (o := 11) (Nat.le_succ _) (.int .i64 x.epoch)) (b := w.heap.size + 1) (o := 12) (Nat.le_succ _) (.slice pa A.length ca)) (b := w.heap.size + 1) (o := 13) (Nat.le_succ _) (.slice pb B.length cb)) (b := w.heap.size + 1) (o := 14) (Nat.le_succ _) (.slice p2 x.owes.length c2))
  obtain ⟨y0, y1, y2, y3, y4, y5, y6, y7, y8, y9, y10, y11, y12, y13, y14, yf, yl⟩ := C2.word
  obtain ⟨z0, z1, z2, z3, z4, z5, z6, z7, z8, z9, z10, z11, z12, z13, z14, zf, zl⟩ := C3.word
  go_wp2
  exact bodyPost_ret (v := .agg #[.int .i64 x.kind, .int .i64 x.frm, .int .i64 x.to, .int .i64 x.call, .int .i64 x.key, .int .i64 x.time, .int .i64 x.site, .int .i64 x.val, .bool x.yes, .slice p1 x.deps.length c1, .int .i64 x.slot, .int .i64 x.epoch, .slice pa A.length ca, .slice pb B.length cb, .slice p2 x.owes.length c2]) (by simp [results, Try.results56, go_sem, *]) rfl ⟨A, B, p1, pa, pb, p2, c1, ca, cb, c2, rfl, hA.out, hB.out, Reads.own o1, v1.vers, v2.vers, Reads.own o2, G⟩
end Go.Proofs.Ytiigdbmfpibbdaa
