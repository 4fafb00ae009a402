/- A server's validity: the program's functions. -/
import Derived.Test.YthciikogogkfcaaServP
import Derived.Test.YthciikogogkfcaaChainW4
import Derived.Test.YthciikogogkfcaaWordW
namespace Go.Proofs.Ythciikogogkfcaa
open Go.RowKit Go.Deep
set_option linter.unusedVariables false

theorem int_is {P : Program} {f : FuncId} {args : Array Value} {w : World} {b c : Int} {R : World → Prop} (h : b = c) (hc : Calls P f args w fun e w' => e = .returned (.int .i64 b) ∧ R w') : Calls P f args w fun e w' => e = .returned (.int .i64 c) ∧ R w' := h ▸ hc
/-- A slot among slots. -/
theorem slot_cell {w : World} {a : Option Addr} {c : Nat} {l : List (Int × Int)} (hr : Reads w a l.length c (stsC l)) (k : Nat) (hk : k < l.length) : ∃ b off, a = some ⟨b, off, none⟩ ∧ b < w.heap.size ∧ w.cell? ⟨b, off + k * 2, none⟩ = some (.int .i64 l[k].1) ∧ w.cell? ⟨b, off + k * 2 + 1, none⟩ = some (.int .i64 l[k].2) := by
  obtain ⟨_, _, h3⟩ := hr
  obtain ⟨b, off, rfl, hbl, hcell⟩ := h3 (stsC_ne (by omega))
  obtain ⟨g0, g1⟩ := stsC_get l k hk
  exact ⟨b, off, rfl, hbl, hcell _ _ g0, by rw [Nat.add_assoc]; exact hcell _ _ g1⟩
theorem stand_get {sl : List (Int × Int)} {key : Int} {j : Nat} (hj : verSlotI key = (j : Int)) (h : j < sl.length) : standI sl key = sl[j].2 := by
  unfold standI
  rw [hj, Int.toNat_natCast, List.getD_eq_getElem?_getD, List.getElem?_eq_getElem h]; rfl

set_option maxHeartbeats 2000000 in
theorem stand_impl (x : Ms) (sa : Option Addr) (key : Int) (w : World) (hsl : Reads w sa x.slots.length x.sc (stsC x.slots)) (h3 : x.slots.length = 3) (hk : inB key 0 5 = true) :
    Calls Try.prog 79 #[.agg #[.int .i64 x.site, .bool x.up, .slice sa x.slots.length x.sc, .slice x.va x.vers.length x.vc, .slice x.wa x.waits.length x.wc, .slice x.oa x.owes.length x.oc, .slice x.ka x.knows.length x.kc], .int .i64 key] w fun e w' => e = .returned (.int .i64 (standI x.slots key)) ∧ Below w.heap.size w w' := by
  obtain ⟨hv0, hv1, hv2, hv3⟩ := slot_range hk
  obtain ⟨j, hj⟩ : ∃ j : Nat, verSlotI key = (j : Int) := ⟨_, hv2.symm⟩
  have hjl : j < x.slots.length := by omega
  obtain ⟨b, off, rfl, hbl0, c0', c1'⟩ := slot_cell hsl j hjl
  have BV := Blk.new w #[.int .i64 x.site, .bool x.up, .slice (some ⟨b, off, none⟩) x.slots.length x.sc, .slice x.va x.vers.length x.vc, .slice x.wa x.waits.length x.wc, .slice x.oa x.owes.length x.oc, .slice x.ka x.knows.length x.kc] 59
  have G0 := below_box w (.cells #[.int .i64 x.site, .bool x.up, .slice (some ⟨b, off, none⟩) x.slots.length x.sc, .slice x.va x.vers.length x.vc, .slice x.wa x.waits.length x.wc, .slice x.oa x.owes.length x.oc, .slice x.ka x.knows.length x.kc] 59)
  have c1 := (G0.cell (p := ⟨b, off + j * 2 + 1, none⟩) hbl0).trans c1'
  have hbl := Nat.lt_of_lt_of_le hbl0 G0.size
  clear c0' c1'
  obtain ⟨p0, p1, p2, p3, p4, p5, p6, pf, pl⟩ := BV.seven
  have hi0 : (0 : Int) ≤ (j : Int) := by omega
  have hi1 : (j : Int) < (x.slots.length : Int) := by omega
  have HH := Lib.hid (stand_get hj hjl)
  clear hv0 hv1 hv2 hv3 h3
  go_enter Try.func79, Try.ntmps79
  go_wp2
  refine region_over (by kernel_rfl) (by kernel_rfl) ?_
  repeat (go_big_quiet_step (first | (go_at_call 121; exact quiet_over_same (int_is hj (verSlot_impl _ _)))))
  refine wpQuiet_nil ?_
  intro w9 hb9
  have G1 := below_after G0 hb9
  go_wp2
  go_ret
  exact ⟨by rw [HH.out]; rfl, G1⟩

set_option maxHeartbeats 2000000 in
theorem here_spec (x : Ms) (sa : Option Addr) (key : Int) (w : World) (hsl : Reads w sa x.slots.length x.sc (stsC x.slots)) (h3 : x.slots.length = 3) (hk : inB key 0 5 = true) :
    Calls Try.prog 118 #[.agg #[.int .i64 x.site, .bool x.up, .slice sa x.slots.length x.sc, .slice x.va x.vers.length x.vc, .slice x.wa x.waits.length x.wc, .slice x.oa x.owes.length x.oc, .slice x.ka x.knows.length x.kc], .int .i64 key] w fun e w' => e = .returned (.bool (hereB x.slots key)) ∧ Below w.heap.size w w' := by
  obtain ⟨hv0, hv1, hv2, hv3⟩ := slot_range hk
  obtain ⟨j, hj⟩ : ∃ j : Nat, verSlotI key = (j : Int) := ⟨_, hv2.symm⟩
  have hjl : j < x.slots.length := by omega
  obtain ⟨b, off, rfl, hbl0, c0', c1'⟩ := slot_cell hsl j hjl
  have BV := Blk.new w #[.int .i64 x.site, .bool x.up, .slice (some ⟨b, off, none⟩) x.slots.length x.sc, .slice x.va x.vers.length x.vc, .slice x.wa x.waits.length x.wc, .slice x.oa x.owes.length x.oc, .slice x.ka x.knows.length x.kc] 59
  have G0 := below_box w (.cells #[.int .i64 x.site, .bool x.up, .slice (some ⟨b, off, none⟩) x.slots.length x.sc, .slice x.va x.vers.length x.vc, .slice x.wa x.waits.length x.wc, .slice x.oa x.owes.length x.oc, .slice x.ka x.knows.length x.kc] 59)
  have c1 := (G0.cell (p := ⟨b, off + j * 2 + 1, none⟩) hbl0).trans c1'
  have hbl := Nat.lt_of_lt_of_le hbl0 G0.size
  clear c0' c1'
  obtain ⟨p0, p1, p2, p3, p4, p5, p6, pf, pl⟩ := BV.seven
  have hi0 : (0 : Int) ≤ (j : Int) := by omega
  have hi1 : (j : Int) < (x.slots.length : Int) := by omega
  have HH : Hid (hereB x.slots key = !decide (x.slots[j].2 = 0)) := by show _ = _; rw [hereB, stand_get hj hjl]
  clear hv0 hv1 hv2 hv3 h3
  by_cases hz : x.slots[j].2 = 0
  · have hz' : (x.slots[j].2 != 0) = false := by simp [hz]
    have HR : Hid (hereB x.slots key = false) := by show _ = _; rw [HH.out, decide_eq_true hz]; rfl
    clear hz
    go_enter Try.func118, Try.ntmps118
    go_wp2
    refine region_over (by kernel_rfl) (by kernel_rfl) ?_
    repeat (go_big_quiet_step (first | (go_at_call 84; exact quiet_over_same (int_is hj (verSlot_spec _ _)))))
    refine wpQuiet_nil ?_
    intro w9 hb9
    have G1 := below_after G0 hb9
    go_wp2
    go_ret
    exact ⟨by rw [HR.out]; rfl, G1⟩
  · have hz' : (x.slots[j].2 != 0) = true := by simpa using hz
    have HR : Hid (hereB x.slots key = true) := by show _ = _; rw [HH.out, decide_eq_false hz]; rfl
    clear hz
    go_enter Try.func118, Try.ntmps118
    go_wp2
    refine region_over (by kernel_rfl) (by kernel_rfl) ?_
    repeat (go_big_quiet_step (first | (go_at_call 84; exact quiet_over_same (int_is hj (verSlot_spec _ _)))))
    refine wpQuiet_nil ?_
    intro w9 hb9
    have G1 := below_after G0 hb9
    go_wp2
    go_ret
    exact ⟨by rw [HR.out]; rfl, G1⟩

set_option maxHeartbeats 2000000 in
theorem stranger_impl (x : Ms) (v : Vp) (a : Option Addr) (c : Nat) (w : World) :
    Calls Try.prog 80 #[.agg #[.int .i64 x.site, .bool x.up, .slice x.sa x.slots.length x.sc, .slice x.va x.vers.length x.vc, .slice x.wa x.waits.length x.wc, .slice x.oa x.owes.length x.oc, .slice x.ka x.knows.length x.kc], .agg #[.int .i64 v.key, .int .i64 v.time, .int .i64 v.site, .int .i64 v.val, .int .i64 v.client, .int .i64 v.call, .slice a v.deps.length c]] w fun e w' => e = .returned (.bool (!decide (siteSideI v.site = siteSideI x.site))) ∧ Below w.heap.size w w' := by
  have BS := (Blk.new w #[.int .i64 x.site, .bool x.up, .slice x.sa x.slots.length x.sc, .slice x.va x.vers.length x.vc, .slice x.wa x.waits.length x.wc, .slice x.oa x.owes.length x.oc, .slice x.ka x.knows.length x.kc] 59).alloc (.cells #[.int .i64 v.key, .int .i64 v.time, .int .i64 v.site, .int .i64 v.val, .int .i64 v.client, .int .i64 v.call, .slice a v.deps.length c] 27)
  have BV := Blk.new (w.alloc (.cells #[.int .i64 x.site, .bool x.up, .slice x.sa x.slots.length x.sc, .slice x.va x.vers.length x.vc, .slice x.wa x.waits.length x.wc, .slice x.oa x.owes.length x.oc, .slice x.ka x.knows.length x.kc] 59)) #[.int .i64 v.key, .int .i64 v.time, .int .i64 v.site, .int .i64 v.val, .int .i64 v.client, .int .i64 v.call, .slice a v.deps.length c] 27
  simp only [World.size_alloc] at BV
  have G0 := below_box2 w (.cells #[.int .i64 x.site, .bool x.up, .slice x.sa x.slots.length x.sc, .slice x.va x.vers.length x.vc, .slice x.wa x.waits.length x.wc, .slice x.oa x.owes.length x.oc, .slice x.ka x.knows.length x.kc] 59) (.cells #[.int .i64 v.key, .int .i64 v.time, .int .i64 v.site, .int .i64 v.val, .int .i64 v.client, .int .i64 v.call, .slice a v.deps.length c] 27)
  obtain ⟨p0, p1, p2, p3, p4, p5, p6, pf, pl⟩ := BS.seven
  obtain ⟨q0, q1, q2, q3, q4, q5, q6, qf, ql⟩ := BV.seven
  by_cases he : siteSideI v.site = siteSideI x.site
  · have he' : (siteSideI v.site != siteSideI x.site) = false := by simp [he]
    have HR : Hid ((!decide (siteSideI v.site = siteSideI x.site)) = false) := by show _ = _; rw [decide_eq_true he]; rfl
    clear he
    go_enter Try.func80, Try.ntmps80
    go_wp2
    refine region_over (by kernel_rfl) (by kernel_rfl) ?_
    repeat (go_big_quiet_step (first | (go_at_call 122; exact quiet_over_same (siteSide_impl _ _))))
    refine wpQuiet_nil ?_
    intro w9 hb9
    have G1 := below_after G0 hb9
    go_wp2
    go_ret
    exact ⟨by rw [HR.out]; rfl, G1⟩
  · have he' : (siteSideI v.site != siteSideI x.site) = true := by simpa using he
    have HR : Hid ((!decide (siteSideI v.site = siteSideI x.site)) = true) := by show _ = _; rw [decide_eq_false he]; rfl
    clear he
    go_enter Try.func80, Try.ntmps80
    go_wp2
    refine region_over (by kernel_rfl) (by kernel_rfl) ?_
    repeat (go_big_quiet_step (first | (go_at_call 122; exact quiet_over_same (siteSide_impl _ _))))
    refine wpQuiet_nil ?_
    intro w9 hb9
    have G1 := below_after G0 hb9
    go_wp2
    go_ret
    exact ⟨by rw [HR.out]; rfl, G1⟩

end Go.Proofs.Ythciikogogkfcaa
