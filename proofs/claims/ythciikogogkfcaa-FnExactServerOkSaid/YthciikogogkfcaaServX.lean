/- Servers handed over, counted and compared by the laws' own functions; arguments that are servers, opened. -/
import Derived.Test.YthciikogogkfcaaServP
import Derived.Test.YthciikogogkfcaaSlots
import Derived.Test.YthciikogogkfcaaConvVS
import Derived.Test.YthciikogogkfcaaOpenV
import Derived.Test.YthciikogogkfcaaWordX
namespace Go.Proofs.Ythciikogogkfcaa
open Go.ChangeShapes Go.WideShapes Go.ChangeAt Go.RowKit Go.Joins Go.Deep
set_option linter.unusedVariables false

set_option maxHeartbeats 1000000 in
theorem toSlot_laws (t s : Int) (w : World) :
    Calls Try.prog 119 #[.agg #[.int .i64 t, .int .i64 s]] w fun e w' => e = .returned (.agg #[.int .i64 t, .int .i64 s]) ∧ Below w.heap.size w w' := by
  go_enter Try.func119, Try.ntmps119
  go_wp2
  exact bodyPost_ret (v := .agg #[.int .i64 t, .int .i64 s]) (by simp [results, Try.results119, go_sem]) rfl ⟨rfl, by repeat (first | exact Below.refl _ _ | refine Below.drew ?_ | refine Below.alloc ?_ (by simp <;> omega) _ | refine Below.setCell ?_ (by simp <;> omega) _)⟩
theorem infoSlotI : (Try.prog.info? 101).map (fun i => (i.zero, i.size, i.bytes)) = some (some (.agg #[.int .i64 0, .int .i64 0]), 2, 16) := by kernel_rfl
/-- The slice handed back is new memory of the callee's own, and holds l. -/
def ToNewSlot (l : List (Int × Int)) (w : World) (e : Ending) (w' : World) : Prop := ∃ v, e = .returned v ∧ w'.ownsRow w.heap.size 101 2 v l.length (stsC l) ∧ Below w.heap.size w w'
set_option maxHeartbeats 1000000 in
theorem toSlotS_laws (l : List (Int × Int)) (a : Option Addr) (cap : Nat) (w : World) (hr : Reads w a l.length cap (stsC l)) (hl : l.length ≤ 1048577) :
    Calls Try.prog 76 #[.slice a l.length cap] w (ToNewSlot l w) := by
  obtain ⟨i0, hi, hz0, hz1, hz2⟩ := info_parts infoSlotI
  have hmk := fun W => run_make_rowN (P := Try.prog) 57 101 i0 _ Try.underlying57 hi hz0 .i64 .i64 l.length l.length (Nat.le_refl _) (by rw [hz2]; omega) (by omega) W
  rw [hz1] at hmk
  go_enter Try.func76, Try.ntmps76
  go_wp2
  have r0 := row_made w (stsC l) #[.int .i64 0, .int .i64 0] (l.length * 2) 101
  have hb0 := below_box w (.cells (madeCells #[.int .i64 0, .int .i64 0] (l.length * 2)) 101)
  go_loopw [4] (fun i wr => ∃ k : Nat, k ≤ l.length ∧ i = .int .i64 k ∧ wr.rowIs w.heap.size 101 (l.length * 2) (fillF (stsC l) #[.int .i64 0, .int .i64 0] (k * 2)) ∧ Below w.heap.size w wr) (fun i _ => l.length - (intOf i).toNat)
  case atStart => exact ⟨0, Nat.zero_le _, rfl, by simpa using r0, hb0⟩
  case round =>
    obtain ⟨k, hk, rfl, hrow, hb⟩ := hrel
    by_cases hlt : k < l.length
    · have hr' := hr.below hb
      obtain ⟨_, _, h3⟩ := hr'
      obtain ⟨b, off, rfl, hbl, hcell⟩ := h3 (stsC_ne (by omega))
      obtain ⟨g0, g1⟩ := stsC_get l k hlt
      have c0 := hcell _ _ g0
      have c1 := hcell _ _ g1
      rw [← Nat.add_assoc] at c1
      clear hcell h3
      go_wp2_with fail
      refine (toSlot_laws _ _ _).mono ?_
      rintro e w2 ⟨rfl, hb2⟩
      have hrow2 := hrow.of_block (hb2.block _ hrow.lt)
      have hbw := below_after hb hb2
      have hrow3 := row_fill1 (row_fill1 (hrow2) g0) g1
      have f0 := fun o => hrow2.frozen o
      have hx0 := hrow2.cell (i := k * 2) (by omega)
      have hx1 := hrow2.cell (i := k * 2 + 1) (by omega)
      clear hrow
      go_wp2
      go_roundw
      case rel =>
        refine ⟨k + 1, by omega, by go_num, ?_, by repeat (first | exact hbw | refine below_setb ?_ (Nat.le_refl _) _)⟩
        rw [show (k + 1) * 2 = k * 2 + 1 + 1 from by omega]
        exact hrow3
      case measure => simp [intOf]; omega
    · obtain rfl : k = l.length := by omega
      go_wp2
      go_ret
      exact ⟨_, rfl, row_owns hrow (stsC_len l) (Nat.le_refl _) (by unfold maxLen; omega), hb⟩
set_option maxHeartbeats 400000 in
theorem szSlotS_laws (n : Nat) (left : Int) (a : Option Addr) (cap : Nat) (w : World) (h0 : 0 ≤ left) (h1 : left ≤ 1048576) (hn : n ≤ maxLen) :
    Calls Try.prog 72 #[.slice a n cap, .int .i64 left] w fun e w' => e = .returned (.int .i64 (szR left n)) ∧ w = w' := by
  unfold maxLen at hn
  by_cases h : left < (n : Int)
  · have h' : left - (n : Int) < 0 := by omega
    go_enter Try.func72, Try.ntmps72
    go_wp2
    go_ret
    exact ⟨by rw [szR, if_pos (by omega)]; rfl, rfl⟩
  · have h' : (0 : Int) ≤ left - (n : Int) := by omega
    go_enter Try.func72, Try.ntmps72
    go_wp2
    go_ret
    exact ⟨by rw [szR, if_neg (by omega)]; rfl, rfl⟩

/-- A server comes back: the same, its lists in other places. -/
def ToServ (x : Ms) (w : World) (e : Ending) (w' : World) : Prop := ∃ (A B : List Mv) (p0 pa pb p1 p2 : Option Addr) (c0 ca cb c1 c2 : Nat), e = .returned (.agg #[.int .i64 x.site, .bool x.up, .slice p0 x.slots.length c0, .slice pa A.length ca, .slice pb B.length cb, .slice p1 x.owes.length c1, .slice p2 x.knows.length c2]) ∧ vs A = vs x.vers ∧ vs B = vs x.waits ∧
  Reads w' p0 x.slots.length c0 (stsC x.slots) ∧ Vers w' pa ca A ∧ Vers w' pb cb B ∧ Reads w' p1 x.owes.length c1 (dpsC x.owes) ∧ Reads w' p2 x.knows.length c2 (dpsC x.knows) ∧ Below w.heap.size w w'
set_option maxRecDepth 100000 in
set_option maxHeartbeats 4000000 in
theorem toServer_laws (x : Ms) (w : World) (hin : ServIn w x) (hf : FewS x) :
    Calls Try.prog 29 #[.agg #[.int .i64 x.site, .bool x.up, .slice x.sa x.slots.length x.sc, .slice x.va x.vers.length x.vc, .slice x.wa x.waits.length x.wc, .slice x.oa x.owes.length x.oc, .slice x.ka x.knows.length x.kc]] w (ToServ x w) := by
  have C1 := ((Blk.new w #[.int .i64 x.site, .bool x.up, .slice x.sa x.slots.length x.sc, .slice x.va x.vers.length x.vc, .slice x.wa x.waits.length x.wc, .slice x.oa x.owes.length x.oc, .slice x.ka x.knows.length x.kc] 54).alloc (.cells #[.int .i64 0, .bool false, .slice none 0 0, .slice none 0 0, .slice none 0 0, .slice none 0 0, .slice none 0 0] 59)).alloc (.cells #[.int .i64 x.site, .bool x.up, .slice none 0 0, .slice none 0 0, .slice none 0 0, .slice none 0 0, .slice none 0 0] 59)
  have C2 := (Blk.new (w.alloc (.cells #[.int .i64 x.site, .bool x.up, .slice x.sa x.slots.length x.sc, .slice x.va x.vers.length x.vc, .slice x.wa x.waits.length x.wc, .slice x.oa x.owes.length x.oc, .slice x.ka x.knows.length x.kc] 54)) #[.int .i64 0, .bool false, .slice none 0 0, .slice none 0 0, .slice none 0 0, .slice none 0 0, .slice none 0 0] 59).alloc (.cells #[.int .i64 x.site, .bool x.up, .slice none 0 0, .slice none 0 0, .slice none 0 0, .slice none 0 0, .slice none 0 0] 59)
  have C3 := Blk.new ((w.alloc (.cells #[.int .i64 x.site, .bool x.up, .slice x.sa x.slots.length x.sc, .slice x.va x.vers.length x.vc, .slice x.wa x.waits.length x.wc, .slice x.oa x.owes.length x.oc, .slice x.ka x.knows.length x.kc] 54)).alloc (.cells #[.int .i64 0, .bool false, .slice none 0 0, .slice none 0 0, .slice none 0 0, .slice none 0 0, .slice none 0 0] 59)) #[.int .i64 x.site, .bool x.up, .slice none 0 0, .slice none 0 0, .slice none 0 0, .slice none 0 0, .slice none 0 0] 59
  simp only [World.size_alloc] at C2 C3
  have G := below_alloc (below_alloc (below_alloc (Below.refl _ w) (.cells #[.int .i64 x.site, .bool x.up, .slice x.sa x.slots.length x.sc, .slice x.va x.vers.length x.vc, .slice x.wa x.waits.length x.wc, .slice x.oa x.owes.length x.oc, .slice x.ka x.knows.length x.kc] 54)) (.cells #[.int .i64 0, .bool false, .slice none 0 0, .slice none 0 0, .slice none 0 0, .slice none 0 0, .slice none 0 0] 59)) (.cells #[.int .i64 x.site, .bool x.up, .slice none 0 0, .slice none 0 0, .slice none 0 0, .slice none 0 0, .slice none 0 0] 59)
  have n1 : w.heap.size ≠ w.heap.size + 1 + 1 := by omega
  have n2 : w.heap.size + 1 ≠ w.heap.size + 1 + 1 := by omega
  have n3 : w.heap.size + 1 + 1 ≠ w.heap.size + 1 := by omega
  have hle : w.heap.size ≤ w.heap.size + 1 + 1 := by omega
  go_enter Try.func29, Try.ntmps29
  go_wp2_with fail
  refine (toSlotS_laws x.slots x.sa x.sc _ (hin.sl.below G) hf.sl).mono ?_
  rintro e w1 ⟨u1, rfl, o0, hb1⟩
  obtain ⟨p0, c0, rfl, rd1⟩ := Reads.of_owns o0
  have o0 := own_base o0 (show w.heap.size + 1 + 1 + 1 ≤ _ by have := C3.lt; simp at this ⊢; try omega)
  have C1 := C1.below hb1 C1.lt
  have C2 := C2.below hb1 C2.lt
  have C3 := C3.below hb1 C3.lt
  have G := below_after G hb1
  obtain ⟨q0, q1, q2, q3, q4, q5, q6, qf, ql⟩ := C1.seven
  obtain ⟨k0, k1, k2, k3, k4, k5, k6, kf, kl⟩ := C3.seven
  have C1 := (C1.setb (b' := w.heap.size + 1 + 1) (o := 2) n1 (.slice p0 x.slots.length c0))
  have C2 := (C2.setb (b' := w.heap.size + 1 + 1) (o := 2) n2 (.slice p0 x.slots.length c0))
  have G := (below_setb G (b := w.heap.size + 1 + 1) (o := 2) hle (.slice p0 x.slots.length c0))
  have o0 := (own_set o0 (own_ne' o0 (b := w.heap.size + 1 + 1) (by omega)) (o := 2) (.slice p0 x.slots.length c0))
  have C3 := (C3.put2 (.slice p0 x.slots.length c0))
  go_wp2_with fail
  refine (toVerS_laws x.vers x.va x.vc _ (hin.vr.below G) hf.vr).mono ?_
  rintro e w2 ⟨u2, A, rfl, hA, v1, hb2⟩
  obtain ⟨pa, ca, rfl, vv2⟩ := v1.open_
  have hA := Lib.hid hA
  have v1 := v1.base (show w.heap.size + 1 + 1 + 1 ≤ _ by have := C3.lt; omega)
  have C1 := C1.below hb2 C1.lt
  have C2 := C2.below hb2 C2.lt
  have C3 := C3.below hb2 C3.lt
  have G := below_after G hb2
  have o0 := own_below o0 hb2
  clear q0 q1 q2 q3 q4 q5 q6 qf ql k0 k1 k2 k3 k4 k5 k6 kf kl
  obtain ⟨q0, q1, q2, q3, q4, q5, q6, qf, ql⟩ := C1.seven
  obtain ⟨k0, k1, k2, k3, k4, k5, k6, kf, kl⟩ := C3.seven
  have C1 := (C1.setb (b' := w.heap.size + 1 + 1) (o := 3) n1 (.slice pa A.length ca))
  have C2 := (C2.setb (b' := w.heap.size + 1 + 1) (o := 3) n2 (.slice pa A.length ca))
  have G := (below_setb G (b := w.heap.size + 1 + 1) (o := 3) hle (.slice pa A.length ca))
  have o0 := (own_set o0 (own_ne' o0 (b := w.heap.size + 1 + 1) (by omega)) (o := 3) (.slice pa A.length ca))
  have v1 := (OwnVers.setn v1 (b := w.heap.size + 1 + 1) (o := 3) (by omega) (.slice pa A.length ca))
  have C3 := (C3.put3 (.slice pa A.length ca))
  go_wp2_with fail
  refine (toVerS_laws x.waits x.wa x.wc _ (hin.wt.below G) hf.wt).mono ?_
  rintro e w3 ⟨u3, B, rfl, hB, v2, hb3⟩
  obtain ⟨pb, cb, rfl, vv3⟩ := v2.open_
  have hB := Lib.hid hB
  have v2 := v2.base (show w.heap.size + 1 + 1 + 1 ≤ _ by have := C3.lt; omega)
  have C1 := C1.below hb3 C1.lt
  have C2 := C2.below hb3 C2.lt
  have C3 := C3.below hb3 C3.lt
  have G := below_after G hb3
  have o0 := own_below o0 hb3
  have v1 := v1.below hb3
  clear q0 q1 q2 q3 q4 q5 q6 qf ql k0 k1 k2 k3 k4 k5 k6 kf kl
  obtain ⟨q0, q1, q2, q3, q4, q5, q6, qf, ql⟩ := C1.seven
  obtain ⟨k0, k1, k2, k3, k4, k5, k6, kf, kl⟩ := C3.seven
  have C1 := (C1.setb (b' := w.heap.size + 1 + 1) (o := 4) n1 (.slice pb B.length cb))
  have C2 := (C2.setb (b' := w.heap.size + 1 + 1) (o := 4) n2 (.slice pb B.length cb))
  have G := (below_setb G (b := w.heap.size + 1 + 1) (o := 4) hle (.slice pb B.length cb))
  have o0 := (own_set o0 (own_ne' o0 (b := w.heap.size + 1 + 1) (by omega)) (o := 4) (.slice pb B.length cb))
  have v1 := (OwnVers.setn v1 (b := w.heap.size + 1 + 1) (o := 4) (by omega) (.slice pb B.length cb))
  have v2 := (OwnVers.setn v2 (b := w.heap.size + 1 + 1) (o := 4) (by omega) (.slice pb B.length cb))
  have C3 := (C3.put4 (.slice pb B.length cb))
  go_wp2_with fail
  refine (toDepS_laws x.owes x.oa x.oc _ (hin.ow.below G) hf.ow).mono ?_
  rintro e w4 ⟨u4, rfl, o1, hb4⟩
  obtain ⟨p1, c1, rfl, rd4⟩ := Reads.of_owns o1
  have o1 := own_base o1 (show w.heap.size + 1 + 1 + 1 ≤ _ by have := C3.lt; simp at this ⊢; try omega)
  have C1 := C1.below hb4 C1.lt
  have C2 := C2.below hb4 C2.lt
  have C3 := C3.below hb4 C3.lt
  have G := below_after G hb4
  have o0 := own_below o0 hb4
  have v1 := v1.below hb4
  have v2 := v2.below hb4
  clear q0 q1 q2 q3 q4 q5 q6 qf ql k0 k1 k2 k3 k4 k5 k6 kf kl
  obtain ⟨q0, q1, q2, q3, q4, q5, q6, qf, ql⟩ := C1.seven
  obtain ⟨k0, k1, k2, k3, k4, k5, k6, kf, kl⟩ := C3.seven
  have C1 := (C1.setb (b' := w.heap.size + 1 + 1) (o := 5) n1 (.slice p1 x.owes.length c1))
  have C2 := (C2.setb (b' := w.heap.size + 1 + 1) (o := 5) n2 (.slice p1 x.owes.length c1))
  have G := (below_setb G (b := w.heap.size + 1 + 1) (o := 5) hle (.slice p1 x.owes.length c1))
  have o0 := (own_set o0 (own_ne' o0 (b := w.heap.size + 1 + 1) (by omega)) (o := 5) (.slice p1 x.owes.length c1))
  have v1 := (OwnVers.setn v1 (b := w.heap.size + 1 + 1) (o := 5) (by omega) (.slice p1 x.owes.length c1))
  have v2 := (OwnVers.setn v2 (b := w.heap.size + 1 + 1) (o := 5) (by omega) (.slice p1 x.owes.length c1))
  have o1 := (own_set o1 (own_ne' o1 (b := w.heap.size + 1 + 1) (by omega)) (o := 5) (.slice p1 x.owes.length c1))
  have C3 := (C3.put5 (.slice p1 x.owes.length c1))
  go_wp2_with fail
  refine (toDepS_laws x.knows x.ka x.kc _ (hin.kn.below G) hf.kn).mono ?_
  rintro e w5 ⟨u5, rfl, o2, hb5⟩
  obtain ⟨p2, c2, rfl, rd5⟩ := Reads.of_owns o2
  have o2 := own_base o2 (show w.heap.size + 1 + 1 + 1 ≤ _ by have := C3.lt; simp at this ⊢; try omega)
  have C1 := C1.below hb5 C1.lt
  have C2 := C2.below hb5 C2.lt
  have C3 := C3.below hb5 C3.lt
  have G := below_after G hb5
  have o0 := own_below o0 hb5
  have v1 := v1.below hb5
  have v2 := v2.below hb5
  have o1 := own_below o1 hb5
  clear q0 q1 q2 q3 q4 q5 q6 qf ql k0 k1 k2 k3 k4 k5 k6 kf kl
  obtain ⟨q0, q1, q2, q3, q4, q5, q6, qf, ql⟩ := C1.seven
  obtain ⟨k0, k1, k2, k3, k4, k5, k6, kf, kl⟩ := C3.seven
  have C1 := (C1.setb (b' := w.heap.size + 1 + 1) (o := 6) n1 (.slice p2 x.knows.length c2))
  have C2 := (C2.setb (b' := w.heap.size + 1 + 1) (o := 6) n2 (.slice p2 x.knows.length c2))
  have G := (below_setb G (b := w.heap.size + 1 + 1) (o := 6) hle (.slice p2 x.knows.length c2))
  have o0 := (own_set o0 (own_ne' o0 (b := w.heap.size + 1 + 1) (by omega)) (o := 6) (.slice p2 x.knows.length c2))
  have v1 := (OwnVers.setn v1 (b := w.heap.size + 1 + 1) (o := 6) (by omega) (.slice p2 x.knows.length c2))
  have v2 := (OwnVers.setn v2 (b := w.heap.size + 1 + 1) (o := 6) (by omega) (.slice p2 x.knows.length c2))
  have o1 := (own_set o1 (own_ne' o1 (b := w.heap.size + 1 + 1) (by omega)) (o := 6) (.slice p2 x.knows.length c2))
  have o2 := (own_set o2 (own_ne' o2 (b := w.heap.size + 1 + 1) (by omega)) (o := 6) (.slice p2 x.knows.length c2))
  have C3 := (C3.put6 (.slice p2 x.knows.length c2))
  have o0 := (own_set (own_set (own_set (own_set (own_set (own_set (own_set o0 (own_ne' o0 (b := w.heap.size + 1) (by omega)) (o := 0) (.int .i64 x.site)) (own_ne' o0 (b := w.heap.size + 1) (by omega)) (o := 1) (.bool x.up)) (own_ne' o0 (b := w.heap.size + 1) (by omega)) (o := 2) (.slice p0 x.slots.length c0)) (own_ne' o0 (b := w.heap.size + 1) (by omega)) (o := 3) (.slice pa A.length ca)) (own_ne' o0 (b := w.heap.size + 1) (by omega)) (o := 4) (.slice pb B.length cb)) (own_ne' o0 (b := w.heap.size + 1) (by omega)) (o := 5) (.slice p1 x.owes.length c1)) (own_ne' o0 (b := w.heap.size + 1) (by omega)) (o := 6) (.slice p2 x.knows.length c2))
  have v1 := (OwnVers.setn (OwnVers.setn (OwnVers.setn (OwnVers.setn (OwnVers.setn (OwnVers.setn (OwnVers.setn v1 (b := w.heap.size + 1) (o := 0) (by omega) (.int .i64 x.site)) (b := w.heap.size + 1) (o := 1) (by omega) (.bool x.up)) (b := w.heap.size + 1) (o := 2) (by omega) (.slice p0 x.slots.length c0)) (b := w.heap.size + 1) (o := 3) (by omega) (.slice pa A.length ca)) (b := w.heap.size + 1) (o := 4) (by omega) (.slice pb B.length cb)) (b := w.heap.size + 1) (o := 5) (by omega) (.slice p1 x.owes.length c1)) (b := w.heap.size + 1) (o := 6) (by omega) (.slice p2 x.knows.length c2))
  have v2 := (OwnVers.setn (OwnVers.setn (OwnVers.setn (OwnVers.setn (OwnVers.setn (OwnVers.setn (OwnVers.setn v2 (b := w.heap.size + 1) (o := 0) (by omega) (.int .i64 x.site)) (b := w.heap.size + 1) (o := 1) (by omega) (.bool x.up)) (b := w.heap.size + 1) (o := 2) (by omega) (.slice p0 x.slots.length c0)) (b := w.heap.size + 1) (o := 3) (by omega) (.slice pa A.length ca)) (b := w.heap.size + 1) (o := 4) (by omega) (.slice pb B.length cb)) (b := w.heap.size + 1) (o := 5) (by omega) (.slice p1 x.owes.length c1)) (b := w.heap.size + 1) (o := 6) (by omega) (.slice p2 x.knows.length c2))
  have o1 := (own_set (own_set (own_set (own_set (own_set (own_set (own_set o1 (own_ne' o1 (b := w.heap.size + 1) (by omega)) (o := 0) (.int .i64 x.site)) (own_ne' o1 (b := w.heap.size + 1) (by omega)) (o := 1) (.bool x.up)) (own_ne' o1 (b := w.heap.size + 1) (by omega)) (o := 2) (.slice p0 x.slots.length c0)) (own_ne' o1 (b := w.heap.size + 1) (by omega)) (o := 3) (.slice pa A.length ca)) (own_ne' o1 (b := w.heap.size + 1) (by omega)) (o := 4) (.slice pb B.length cb)) (own_ne' o1 (b := w.heap.size + 1) (by omega)) (o := 5) (.slice p1 x.owes.length c1)) (own_ne' o1 (b := w.heap.size + 1) (by omega)) (o := 6) (.slice p2 x.knows.length c2))
  have o2 := (own_set (own_set (own_set (own_set (own_set (own_set (own_set o2 (own_ne' o2 (b := w.heap.size + 1) (by omega)) (o := 0) (.int .i64 x.site)) (own_ne' o2 (b := w.heap.size + 1) (by omega)) (o := 1) (.bool x.up)) (own_ne' o2 (b := w.heap.size + 1) (by omega)) (o := 2) (.slice p0 x.slots.length c0)) (own_ne' o2 (b := w.heap.size + 1) (by omega)) (o := 3) (.slice pa A.length ca)) (own_ne' o2 (b := w.heap.size + 1) (by omega)) (o := 4) (.slice pb B.length cb)) (own_ne' o2 (b := w.heap.size + 1) (by omega)) (o := 5) (.slice p1 x.owes.length c1)) (own_ne' o2 (b := w.heap.size + 1) (by omega)) (o := 6) (.slice p2 x.knows.length c2))
  have G := (below_setb (below_setb (below_setb (below_setb (below_setb (below_setb (below_setb G (b := w.heap.size + 1) (o := 0) (Nat.le_succ _) (.int .i64 x.site)) (b := w.heap.size + 1) (o := 1) (Nat.le_succ _) (.bool x.up)) (b := w.heap.size + 1) (o := 2) (Nat.le_succ _) (.slice p0 x.slots.length c0)) (b := w.heap.size + 1) (o := 3) (Nat.le_succ _) (.slice pa A.length ca)) (b := w.heap.size + 1) (o := 4) (Nat.le_succ _) (.slice pb B.length cb)) (b := w.heap.size + 1) (o := 5) (Nat.le_succ _) (.slice p1 x.owes.length c1)) (b := w.heap.size + 1) (o := 6) (Nat.le_succ _) (.slice p2 x.knows.length c2))
  obtain ⟨y0, y1, y2, y3, y4, y5, y6, yf, yl⟩ := C2.seven
  obtain ⟨z0, z1, z2, z3, z4, z5, z6, zf, zl⟩ := C3.seven
  go_wp2
  exact bodyPost_ret (v := .agg #[.int .i64 x.site, .bool x.up, .slice p0 x.slots.length c0, .slice pa A.length ca, .slice pb B.length cb, .slice p1 x.owes.length c1, .slice p2 x.knows.length c2]) (by simp [results, Try.results29, go_sem, *]) rfl ⟨A, B, p0, pa, pb, p1, p2, c0, ca, cb, c1, c2, rfl, hA.out, hB.out, Reads.own o0, v1.vers, v2.vers, Reads.own o1, Reads.own o2, G⟩
set_option maxHeartbeats 2000000 in
theorem szServer_laws (x : Ms) (left : Int) (w : World) (hin : ServIn w x) (h0 : 0 ≤ left) (h1 : left ≤ 1048576) :
    Calls Try.prog 27 #[.agg #[.int .i64 x.site, .bool x.up, .slice x.sa x.slots.length x.sc, .slice x.va x.vers.length x.vc, .slice x.wa x.waits.length x.wc, .slice x.oa x.owes.length x.oc, .slice x.ka x.knows.length x.kc], .int .i64 left] w fun e w' => ∃ r : Int, e = .returned (.int .i64 r) ∧ (0 ≤ r → x.slots.length ≤ 1048576 ∧ sizeM x.vers ≤ 1048576 ∧ sizeM x.waits ≤ 1048576 ∧ x.owes.length ≤ 1048576 ∧ x.knows.length ≤ 1048576) ∧ Below w.heap.size w w' := by
  have BV := Blk.new w #[.int .i64 x.site, .bool x.up, .slice x.sa x.slots.length x.sc, .slice x.va x.vers.length x.vc, .slice x.wa x.waits.length x.wc, .slice x.oa x.owes.length x.oc, .slice x.ka x.knows.length x.kc] 54
  have G := below_box w (.cells #[.int .i64 x.site, .bool x.up, .slice x.sa x.slots.length x.sc, .slice x.va x.vers.length x.vc, .slice x.wa x.waits.length x.wc, .slice x.oa x.owes.length x.oc, .slice x.ka x.knows.length x.kc] 54)
  obtain ⟨m1a, m1b, _⟩ := hin.sl
  obtain ⟨m2a, m2b, _⟩ := hin.ow
  obtain ⟨m3a, m3b, _⟩ := hin.kn
  obtain ⟨p0, p1, p2, p3, p4, p5, p6, pf, pl⟩ := BV.seven
  go_enter Try.func27, Try.ntmps27
  go_wp2_with fail
  refine (szSlotS_laws x.slots.length left x.sa x.sc _ h0 h1 (by omega)).mono ?_
  rintro e w' ⟨rfl, rfl⟩
  by_cases h1 : left < (x.slots.length : Int)
  · have hz : szR (left) (x.slots.length) = -1 := by rw [szR, if_pos h1]
    go_wp2
    go_ret
    exact ⟨-1, rfl, fun h => absurd h (by decide), G⟩
  have l1 : szR (left) (x.slots.length) = left - (x.slots.length : Int) := by rw [szR, if_neg h1]
  obtain ⟨r1, hr1⟩ : ∃ r, r = szR (left) (x.slots.length) := ⟨_, rfl⟩
  rw [← hr1] at l1
  rw [← hr1]
  have g1 : 0 ≤ r1 := by omega
  have u1 : r1 ≤ 1048576 := by omega
  have HR1 := Lib.hid hr1
  have HL1 := Lib.hid l1
  have s1 : (x.slots.length : Int) ≤ 1048576 := by omega
  clear hr1 l1 h1
  go_wp2_with fail
  refine (szVerS_laws x.vers r1 x.va x.vc _ (hin.vr.below G) g1 u1).mono ?_
  rintro e w2 ⟨rfl, hb2⟩
  have BV := BV.below hb2 BV.lt
  have G := below_after G hb2
  clear p0 p1 p2 p3 p4 p5 p6 pf pl
  obtain ⟨p0, p1, p2, p3, p4, p5, p6, pf, pl⟩ := BV.seven
  by_cases h2 : r1 < (sizeM x.vers : Int)
  · have hz : szR (r1) (sizeM x.vers) = -1 := by rw [szR, if_pos h2]
    go_wp2
    go_ret
    exact ⟨-1, rfl, fun h => absurd h (by decide), G⟩
  have l2 : szR (r1) (sizeM x.vers) = r1 - (sizeM x.vers : Int) := by rw [szR, if_neg h2]
  obtain ⟨r2, hr2⟩ : ∃ r, r = szR (r1) (sizeM x.vers) := ⟨_, rfl⟩
  rw [← hr2] at l2
  rw [← hr2]
  have g2 : 0 ≤ r2 := by omega
  have u2 : r2 ≤ 1048576 := by omega
  have HR2 := Lib.hid hr2
  have HL2 := Lib.hid l2
  have s2 : (sizeM x.vers : Int) ≤ 1048576 := by omega
  clear hr2 l2 h2
  go_wp2_with fail
  refine (szVerS_laws x.waits r2 x.wa x.wc _ (hin.wt.below G) g2 u2).mono ?_
  rintro e w3 ⟨rfl, hb3⟩
  have BV := BV.below hb3 BV.lt
  have G := below_after G hb3
  clear p0 p1 p2 p3 p4 p5 p6 pf pl
  obtain ⟨p0, p1, p2, p3, p4, p5, p6, pf, pl⟩ := BV.seven
  by_cases h3 : r2 < (sizeM x.waits : Int)
  · have hz : szR (r2) (sizeM x.waits) = -1 := by rw [szR, if_pos h3]
    go_wp2
    go_ret
    exact ⟨-1, rfl, fun h => absurd h (by decide), G⟩
  have l3 : szR (r2) (sizeM x.waits) = r2 - (sizeM x.waits : Int) := by rw [szR, if_neg h3]
  obtain ⟨r3, hr3⟩ : ∃ r, r = szR (r2) (sizeM x.waits) := ⟨_, rfl⟩
  rw [← hr3] at l3
  rw [← hr3]
  have g3 : 0 ≤ r3 := by omega
  have u3 : r3 ≤ 1048576 := by omega
  have HR3 := Lib.hid hr3
  have HL3 := Lib.hid l3
  have s3 : (sizeM x.waits : Int) ≤ 1048576 := by omega
  clear hr3 l3 h3
  go_wp2_with fail
  refine (szDepS_laws x.owes.length r3 x.oa x.oc _ g3 u3 (by omega)).mono ?_
  rintro e w' ⟨rfl, rfl⟩
  by_cases h4 : r3 < (x.owes.length : Int)
  · have hz : szR (r3) (x.owes.length) = -1 := by rw [szR, if_pos h4]
    go_wp2
    go_ret
    exact ⟨-1, rfl, fun h => absurd h (by decide), G⟩
  have l4 : szR (r3) (x.owes.length) = r3 - (x.owes.length : Int) := by rw [szR, if_neg h4]
  obtain ⟨r4, hr4⟩ : ∃ r, r = szR (r3) (x.owes.length) := ⟨_, rfl⟩
  rw [← hr4] at l4
  rw [← hr4]
  have g4 : 0 ≤ r4 := by omega
  have u4 : r4 ≤ 1048576 := by omega
  have HR4 := Lib.hid hr4
  have HL4 := Lib.hid l4
  have s4 : (x.owes.length : Int) ≤ 1048576 := by omega
  clear hr4 l4 h4
  go_wp2_with fail
  refine (szDepS_laws x.knows.length r4 x.ka x.kc _ g4 u4 (by omega)).mono ?_
  rintro e w' ⟨rfl, rfl⟩
  by_cases h5 : r4 < (x.knows.length : Int)
  · have hz : szR (r4) (x.knows.length) = -1 := by rw [szR, if_pos h5]
    go_wp2
    go_ret
    exact ⟨-1, rfl, fun h => absurd h (by decide), G⟩
  have l5 : szR (r4) (x.knows.length) = r4 - (x.knows.length : Int) := by rw [szR, if_neg h5]
  obtain ⟨r5, hr5⟩ : ∃ r, r = szR (r4) (x.knows.length) := ⟨_, rfl⟩
  rw [← hr5] at l5
  rw [← hr5]
  have g5 : 0 ≤ r5 := by omega
  have u5 : r5 ≤ 1048576 := by omega
  have HR5 := Lib.hid hr5
  have HL5 := Lib.hid l5
  have s5 : (x.knows.length : Int) ≤ 1048576 := by omega
  clear hr5 l5 h5
  go_wp2
  go_ret
  exact ⟨r5, rfl, fun _ => ⟨by omega, by omega, by omega, by omega, by omega⟩, G⟩

set_option maxHeartbeats 2000000 in
theorem eqServM_same (x : Ms) (A B A' B' : List Mv) (p0 pa pb p1 p2 p0' pa' pb' p1' p2' : Option Addr) (c0 ca cb c1 c2 c0' ca' cb' c1' c2' : Nat) (w : World)
    (s1 : Reads w p0 x.slots.length c0 (stsC x.slots)) (s2 : Reads w p0' x.slots.length c0' (stsC x.slots)) (a1 : Vers w pa ca A) (a2 : Vers w pa' ca' A') (hA : vs A' = vs A)
    (b1 : Vers w pb cb B) (b2 : Vers w pb' cb' B') (hB : vs B' = vs B) (o1 : Reads w p1 x.owes.length c1 (dpsC x.owes)) (o2 : Reads w p1' x.owes.length c1' (dpsC x.owes)) (k1 : Reads w p2 x.knows.length c2 (dpsC x.knows)) (k2 : Reads w p2' x.knows.length c2' (dpsC x.knows)) :
    Calls Try.prog 31 #[.agg #[.int .i64 x.site, .bool x.up, .slice p0 x.slots.length c0, .slice pa A.length ca, .slice pb B.length cb, .slice p1 x.owes.length c1, .slice p2 x.knows.length c2], .agg #[.int .i64 x.site, .bool x.up, .slice p0' x.slots.length c0', .slice pa' A'.length ca', .slice pb' B'.length cb', .slice p1' x.owes.length c1', .slice p2' x.knows.length c2']] w fun e w' => e = .returned (.bool true) ∧ Below w.heap.size w w' := by
  have G := below_box2 w (.cells #[.int .i64 x.site, .bool x.up, .slice p0 x.slots.length c0, .slice pa A.length ca, .slice pb B.length cb, .slice p1 x.owes.length c1, .slice p2 x.knows.length c2] 59) (.cells #[.int .i64 x.site, .bool x.up, .slice p0' x.slots.length c0', .slice pa' A'.length ca', .slice pb' B'.length cb', .slice p1' x.owes.length c1', .slice p2' x.knows.length c2'] 59)
  have C1 := (Blk.new w #[.int .i64 x.site, .bool x.up, .slice p0 x.slots.length c0, .slice pa A.length ca, .slice pb B.length cb, .slice p1 x.owes.length c1, .slice p2 x.knows.length c2] 59).alloc (.cells #[.int .i64 x.site, .bool x.up, .slice p0' x.slots.length c0', .slice pa' A'.length ca', .slice pb' B'.length cb', .slice p1' x.owes.length c1', .slice p2' x.knows.length c2'] 59)
  have C2 := Blk.new (w.alloc (.cells #[.int .i64 x.site, .bool x.up, .slice p0 x.slots.length c0, .slice pa A.length ca, .slice pb B.length cb, .slice p1 x.owes.length c1, .slice p2 x.knows.length c2] 59)) #[.int .i64 x.site, .bool x.up, .slice p0' x.slots.length c0', .slice pa' A'.length ca', .slice pb' B'.length cb', .slice p1' x.owes.length c1', .slice p2' x.knows.length c2'] 59
  simp only [World.size_alloc] at C2
  have hyy : (x.up != x.up) = false := by cases x.up <;> rfl
  obtain ⟨x0, x1, x2, x3, x4, x5, x6, xf, xl⟩ := C1.seven
  obtain ⟨y0, y1, y2, y3, y4, y5, y6, yf, yl⟩ := C2.seven
  go_enter Try.func31, Try.ntmps31
  go_wp2_with fail
  refine (eqSlotS_same x.slots p0 p0' c0 c0' _ (s1.below G) (s2.below G)).mono ?_
  rintro e w1 ⟨rfl, hb1⟩
  have C1 := C1.below hb1 C1.lt
  have C2 := C2.below hb1 C2.lt
  have G := below_after G hb1
  clear x0 x1 x2 x3 x4 x5 x6 xf xl y0 y1 y2 y3 y4 y5 y6 yf yl
  obtain ⟨x0, x1, x2, x3, x4, x5, x6, xf, xl⟩ := C1.seven
  obtain ⟨y0, y1, y2, y3, y4, y5, y6, yf, yl⟩ := C2.seven
  go_wp2_with fail
  refine (eqVerS_same A A' pa pa' ca ca' _ (a1.below G) (a2.below G) hA).mono ?_
  rintro e w2 ⟨rfl, hb2⟩
  have C1 := C1.below hb2 C1.lt
  have C2 := C2.below hb2 C2.lt
  have G := below_after G hb2
  clear x0 x1 x2 x3 x4 x5 x6 xf xl y0 y1 y2 y3 y4 y5 y6 yf yl
  obtain ⟨x0, x1, x2, x3, x4, x5, x6, xf, xl⟩ := C1.seven
  obtain ⟨y0, y1, y2, y3, y4, y5, y6, yf, yl⟩ := C2.seven
  go_wp2_with fail
  refine (eqVerS_same B B' pb pb' cb cb' _ (b1.below G) (b2.below G) hB).mono ?_
  rintro e w3 ⟨rfl, hb3⟩
  have C1 := C1.below hb3 C1.lt
  have C2 := C2.below hb3 C2.lt
  have G := below_after G hb3
  clear x0 x1 x2 x3 x4 x5 x6 xf xl y0 y1 y2 y3 y4 y5 y6 yf yl
  obtain ⟨x0, x1, x2, x3, x4, x5, x6, xf, xl⟩ := C1.seven
  obtain ⟨y0, y1, y2, y3, y4, y5, y6, yf, yl⟩ := C2.seven
  go_wp2_with fail
  refine (eqDepS_same x.owes p1 p1' c1 c1' _ (o1.below G) (o2.below G)).mono ?_
  rintro e w4 ⟨rfl, hb4⟩
  have C1 := C1.below hb4 C1.lt
  have C2 := C2.below hb4 C2.lt
  have G := below_after G hb4
  clear x0 x1 x2 x3 x4 x5 x6 xf xl y0 y1 y2 y3 y4 y5 y6 yf yl
  obtain ⟨x0, x1, x2, x3, x4, x5, x6, xf, xl⟩ := C1.seven
  obtain ⟨y0, y1, y2, y3, y4, y5, y6, yf, yl⟩ := C2.seven
  go_wp2_with fail
  refine (eqDepS_same x.knows p2 p2' c2 c2' _ (k1.below G) (k2.below G)).mono ?_
  rintro e w5 ⟨rfl, hb5⟩
  have C1 := C1.below hb5 C1.lt
  have C2 := C2.below hb5 C2.lt
  have G := below_after G hb5
  clear x0 x1 x2 x3 x4 x5 x6 xf xl y0 y1 y2 y3 y4 y5 y6 yf yl
  obtain ⟨x0, x1, x2, x3, x4, x5, x6, xf, xl⟩ := C1.seven
  obtain ⟨y0, y1, y2, y3, y4, y5, y6, yf, yl⟩ := C2.seven
  go_wp2
  go_ret
  exact ⟨rfl, G⟩

section
variable {H : Type} {enc : TypeId × Value → H} {P : Program} {w : World} {base : Nat} {spare : Nat → Bool} {held : Bool} {r : Reach} {b0 : Nat} {t e : TypeId} {v : Value} {d : DataW H} {p : List MemPlace}
theorem slots_cells {e : TypeId} {f0 f1 : Field} (ht : P.underlying t = some (.slice e)) (hs : IsStamp P e f0 f1) {fuel : Nat} {cs : List Value} {x : DataW H × List MemPlace} (h : DataW.trod enc P w base spare held fuel t cs = some x) :
    ∃ a cap, ∃ l : List (Int × Int), cs = [.slice a l.length cap] ∧ Reads w a l.length cap (stsC l) := by
  rcases open_slice ht h with ⟨hcs, _⟩ | ⟨y, l, c, m, n, D, Pl, hcs, hb, hl, hm, hmm, hx, hi⟩
  · subst hcs
    exact ⟨none, 0, [], rfl, Nat.le_refl _, by simp, fun h => absurd rfl h⟩
  · subst hcs
    obtain ⟨ls, hlen, hrd⟩ := reads_of (k := 2) stC (fun _ => rfl) hl hm (fun i hil => by
      obtain ⟨cs', hc, ht'⟩ := hi i (by split at hmm <;> omega)
      rw [hs.size] at hc
      obtain ⟨_, hcl, hat⟩ := World.cells?_some hc
      obtain ⟨z1, z2, rfl, _⟩ := stamp_cells hs ht'
      refine ⟨(z1, z2), fun j u hj => ?_⟩
      have hjl : j < 2 := by have := (List.getElem?_eq_some_iff.1 hj).1; simpa [stC] using this
      rw [← Go.Deep.add_add, hat j hjl]
      exact hj)
    subst hlen
    exact ⟨_, _, ls, rfl, hrd⟩
/-- What a struct type must be so that it is a server. -/
structure IsServ (P : Program) (t : TypeId) (si up sl ve wa ow kn sf0 sf1 vk vst vva vcl vca vde vg0 vg1 vf0 vf1 vf2 vf3 dg0 dg1 df0 df1 : Field) (se_ de_ ve_ e : TypeId) : Prop where
  under : P.underlying t = some (.struct #[si, up, sl, ve, wa, ow, kn])
  size : P.cellsOf t = 7
  o0 : si.offset = 0
  t0 : P.underlying si.type = some (.int .i64)
  s0 : P.cellsOf si.type = 1
  o1 : up.offset = 1
  t1 : P.underlying up.type = some (.bool)
  s1 : P.cellsOf up.type = 1
  o2 : sl.offset = 2
  t2 : P.underlying sl.type = some (.slice se_)
  s2 : P.cellsOf sl.type = 1
  o3 : ve.offset = 3
  t3 : P.underlying ve.type = some (.slice ve_)
  s3 : P.cellsOf ve.type = 1
  o4 : wa.offset = 4
  t4 : P.underlying wa.type = some (.slice ve_)
  s4 : P.cellsOf wa.type = 1
  o5 : ow.offset = 5
  t5 : P.underlying ow.type = some (.slice de_)
  s5 : P.cellsOf ow.type = 1
  o6 : kn.offset = 6
  t6 : P.underlying kn.type = some (.slice de_)
  s6 : P.cellsOf kn.type = 1
  ts : IsStamp P se_ sf0 sf1
  td : IsDep P de_ dg0 dg1 df0 df1
  tv : IsVer P ve_ vk vst vva vcl vca vde vg0 vg1 vf0 vf1 vf2 vf3 e
def servC (x : Ms) : List Value := [.int .i64 x.site, .bool x.up, .slice x.sa x.slots.length x.sc, .slice x.va x.vers.length x.vc, .slice x.wa x.waits.length x.wc, .slice x.oa x.owes.length x.oc, .slice x.ka x.knows.length x.kc]
theorem serv_cells {si up sl ve wa ow kn sf0 sf1 vk vst vva vcl vca vde vg0 vg1 vf0 vf1 vf2 vf3 dg0 dg1 df0 df1 : Field} {se_ de_ ve_ : TypeId} (hs : IsServ P t si up sl ve wa ow kn sf0 sf1 vk vst vva vcl vca vde vg0 vg1 vf0 vf1 vf2 vf3 dg0 dg1 df0 df1 se_ de_ ve_ e) {fuel : Nat} {cs : List Value} {x : DataW H × List MemPlace} (h : DataW.trod enc P w base spare held fuel t cs = some x) :
    ∃ m : Ms, cs = servC m ∧ ServIn w m := by
  obtain ⟨xs, n, _, _, hlen, hx, hf⟩ := DataW.trod_struct hs.under h
  rw [hs.size] at hlen
  match cs, hlen with
  | [c0, c1, c2, c3, c4, c5, c6], _ =>
    have h0 := hf 0 si rfl
    have h1 := hf 1 up rfl
    have h2 := hf 2 sl rfl
    have h3 := hf 3 ve rfl
    have h4 := hf 4 wa rfl
    have h5 := hf 5 ow rfl
    have h6 := hf 6 kn rfl
    rw [hs.o0, hs.s0] at h0
    rw [hs.o1, hs.s1] at h1
    rw [hs.o2, hs.s2] at h2
    rw [hs.o3, hs.s3] at h3
    rw [hs.o4, hs.s4] at h4
    rw [hs.o5, hs.s5] at h5
    rw [hs.o6, hs.s6] at h6
    match xs, hx with
    | [y0, y1, y2, y3, y4, y5, y6], _ =>
      simp at h0 h1 h2 h3 h4 h5 h6
      obtain ⟨a0, e0, _, i0⟩ := DataW.trod_int hs.t0 h0
      obtain ⟨a1, e1, _⟩ := DataW.trod_bool hs.t1 h1
      obtain ⟨q2, r2, l2, e2, d2⟩ := slots_cells hs.t2 hs.ts h2
      obtain ⟨q3, r3, l3, e3, d3⟩ := vers_cells hs.t3 hs.tv h3
      obtain ⟨q4, r4, l4, e4, d4⟩ := vers_cells hs.t4 hs.tv h4
      obtain ⟨q5, r5, l5, e5, d5⟩ := deps_cells hs.t5 hs.td h5
      obtain ⟨q6, r6, l6, e6, d6⟩ := deps_cells hs.t6 hs.td h6
      simp only [List.cons.injEq, and_true] at e0 e1 e2 e3 e4 e5 e6
      subst e0 e1 e2 e3 e4 e5 e6
      exact ⟨⟨a0, a1, l2, l3, l4, l5, l6, q2, r2, q3, r3, q4, r4, q5, r5, q6, r6⟩, rfl, ⟨d2, d3, d4, d5, d6⟩⟩
theorem serv_of {si up sl ve wa ow kn sf0 sf1 vk vst vva vcl vca vde vg0 vg1 vf0 vf1 vf2 vf3 dg0 dg1 df0 df1 : Field} {se_ de_ ve_ : TypeId} (hs : IsServ P t si up sl ve wa ow kn sf0 sf1 vk vst vva vcl vca vde vg0 vg1 vf0 vf1 vf2 vf3 dg0 dg1 df0 df1 se_ de_ ve_ e) (hv : Value.okWide P w r b0 t v) (h : DataW.Trod enc P w base spare held t v d p) :
    ∃ x : Ms, v = .agg #[.int .i64 x.site, .bool x.up, .slice x.sa x.slots.length x.sc, .slice x.va x.vers.length x.vc, .slice x.wa x.waits.length x.wc, .slice x.oa x.owes.length x.oc, .slice x.ka x.knows.length x.kc] ∧ ServIn w x := by
  obtain ⟨cs, rfl, hsz⟩ := okWide_struct hs.under hv
  obtain ⟨fuel, hf⟩ := h
  obtain ⟨m, ha, hb⟩ := serv_cells hs hf
  refine ⟨m, ?_, hb⟩
  obtain ⟨l⟩ := cs
  simp [Value.cells, servC] at ha
  rw [ha]
end
theorem isSlotL : ∃ f0 f1, IsStamp Try.prog 135 f0 f1 := ⟨_, _, Try.underlying135, by kernel_rfl, rfl, rfl, Try.underlying3, Try.underlying3, by kernel_rfl, by kernel_rfl⟩
theorem isServL : ∃ si up sl ve wa ow kn sf0 sf1 vk vst vva vcl vca vde vg0 vg1 vf0 vf1 vf2 vf3 dg0 dg1 df0 df1 se_ de_ ve_ e, IsServ Try.prog 54 si up sl ve wa ow kn sf0 sf1 vk vst vva vcl vca vde vg0 vg1 vf0 vf1 vf2 vf3 dg0 dg1 df0 df1 se_ de_ ve_ e := by
  obtain ⟨f0, f1, hs⟩ := isSlotL
  obtain ⟨_, _, _, _, hd⟩ := isDepL
  obtain ⟨_, _, _, _, _, _, _, _, _, _, _, _, _, hv⟩ := isVerL
  refine ⟨_, _, _, _, _, _, _, f0, f1, _, _, _, _, _, _, _, _, _, _, _, _, _, _, _, _, 135, 138, 91, _, Try.underlying54, by kernel_rfl, rfl, Try.underlying3, by kernel_rfl, rfl, Try.underlying4, by kernel_rfl, rfl, Try.underlying51, by kernel_rfl, rfl, Try.underlying34, by kernel_rfl, rfl, Try.underlying34, by kernel_rfl, rfl, Try.underlying52, by kernel_rfl, rfl, Try.underlying52, by kernel_rfl, hs, hd, hv⟩
end Go.Proofs.Ythciikogogkfcaa
