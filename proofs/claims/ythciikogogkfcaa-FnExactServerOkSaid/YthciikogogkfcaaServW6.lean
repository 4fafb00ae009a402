/- What a server owns: the program's and the reference's. -/
import Derived.Test.YthciikogogkfcaaServW4
import Derived.Test.YthciikogogkfcaaServW5
namespace Go.Proofs.Ythciikogogkfcaa
open Go.RowKit Go.Deep
set_option linter.unusedVariables false

theorem ServerOk_spec (x : Ms) (w : World) (hin : ServIn w x) (hf : FewS x) :
    Calls Try.prog 28 #[.agg #[.int .i64 x.site, .bool x.up, .slice x.sa x.slots.length x.sc, .slice x.va x.vers.length x.vc, .slice x.wa x.waits.length x.wc, .slice x.oa x.owes.length x.oc, .slice x.ka x.knows.length x.kc]] w (Says (serverOkB x) w) := by
  obtain ⟨site, up, slots, vers, waits, owes, knows, sa, sc, va, vc, wa, wc, oa, oc, ka, kc⟩ := x
  rcases up with _ | _
  · exact ServerOk_spec_false site slots vers waits owes knows sa sc va vc wa wc oa oc ka kc w hin hf
  · exact ServerOk_spec_true site slots vers waits owes knows sa sc va vc wa wc oa oc ka kc w hin hf
theorem serv_slots {x : Ms} (h : serverOkB x = true) : x.slots.length = 3 := by
  simp only [serverOkB, headB, Bool.and_eq_true, decide_eq_true_eq] at h
  exact h.1.2.1
set_option maxHeartbeats 2000000 in
theorem owns_impl (x : Ms) (key : Int) (w : World) (hin : ServIn w x) (h3 : x.slots.length = 3) :
    Calls Try.prog 85 #[.agg #[.int .i64 x.site, .bool x.up, .slice x.sa x.slots.length x.sc, .slice x.va x.vers.length x.vc, .slice x.wa x.waits.length x.wc, .slice x.oa x.owes.length x.oc, .slice x.ka x.knows.length x.kc], .int .i64 key] w (Says (inB key 0 5 && decide (standI x.slots key = 1)) w) := by
  have BV := Blk.new w #[.int .i64 x.site, .bool x.up, .slice x.sa x.slots.length x.sc, .slice x.va x.vers.length x.vc, .slice x.wa x.waits.length x.wc, .slice x.oa x.owes.length x.oc, .slice x.ka x.knows.length x.kc] 59
  have G0 := below_box w (.cells #[.int .i64 x.site, .bool x.up, .slice x.sa x.slots.length x.sc, .slice x.va x.vers.length x.vc, .slice x.wa x.waits.length x.wc, .slice x.oa x.owes.length x.oc, .slice x.ka x.knows.length x.kc] 59)
  obtain ⟨p0, p1, p2, p3, p4, p5, p6, pf, pl⟩ := BV.seven
  go_enter Try.func85, Try.ntmps85
  have H3 := Lib.hid h3
  clear h3
  rcases hk : inB key 0 5 with _ | _
  · have HK := Lib.hid hk
    clear hk
    go_wp2_with fail
    refine (bool_is HK.out (isKey_impl _ _)).mono ?_
    rintro e w' ⟨rfl, rfl⟩
    go_wp2
    go_ret
    exact ⟨rfl, G0⟩
  · have HK := Lib.hid hk
    clear hk
    go_wp2_with fail
    refine (bool_is HK.out (isKey_impl _ _)).mono ?_
    rintro e w' ⟨rfl, rfl⟩
    go_wp2_with fail
    refine (stand_impl x x.sa key _ (hin.sl.below G0) H3.out HK.out).mono ?_
    rintro e w1 ⟨rfl, hb1⟩
    have G0 := below_after G0 hb1
    by_cases hs : standI x.slots key = 1
    · have HR : Hid (decide (standI x.slots key = 1) = true) := by show _ = _; exact decide_eq_true hs
      have hs' : (standI x.slots key == 1) = true := by simpa using hs
      clear hs
      go_wp2
      go_ret
      exact ⟨by rw [HR.out]; rfl, G0⟩
    · have HR : Hid (decide (standI x.slots key = 1) = false) := by show _ = _; exact decide_eq_false hs
      have hs' : (standI x.slots key == 1) = false := by simpa using hs
      clear hs
      go_wp2
      go_ret
      exact ⟨by rw [HR.out]; rfl, G0⟩
set_option maxHeartbeats 2000000 in
theorem ServerOwns_impl (x : Ms) (key : Int) (w : World) (hin : ServIn w x) (hf : FewS x) :
    Calls Try.prog 33 #[.agg #[.int .i64 x.site, .bool x.up, .slice x.sa x.slots.length x.sc, .slice x.va x.vers.length x.vc, .slice x.wa x.waits.length x.wc, .slice x.oa x.owes.length x.oc, .slice x.ka x.knows.length x.kc], .int .i64 key] w (Says (serverOwnsB x key) w) := by
  have BV := Blk.new w #[.int .i64 x.site, .bool x.up, .slice x.sa x.slots.length x.sc, .slice x.va x.vers.length x.vc, .slice x.wa x.waits.length x.wc, .slice x.oa x.owes.length x.oc, .slice x.ka x.knows.length x.kc] 59
  have G0 := below_box w (.cells #[.int .i64 x.site, .bool x.up, .slice x.sa x.slots.length x.sc, .slice x.va x.vers.length x.vc, .slice x.wa x.waits.length x.wc, .slice x.oa x.owes.length x.oc, .slice x.ka x.knows.length x.kc] 59)
  obtain ⟨p0, p1, p2, p3, p4, p5, p6, pf, pl⟩ := BV.seven
  go_enter Try.func33, Try.ntmps33
  rcases ho : serverOkB x with _ | _
  · have HO := Lib.hid ho
    clear ho
    go_wp2_with fail
    refine (bool_is HO.out (ServerOk_impl x _ (hin.below G0) hf)).mono ?_
    rintro e w1 ⟨rfl, hb1⟩
    have G0 := below_after G0 hb1
    go_wp2
    go_ret
    exact ⟨by rw [serverOwnsB, HO.out]; rfl, G0⟩
  · have HO := Lib.hid ho
    have H3 := Lib.hid (serv_slots ho)
    clear ho
    go_wp2_with fail
    refine (bool_is HO.out (ServerOk_impl x _ (hin.below G0) hf)).mono ?_
    rintro e w1 ⟨rfl, hb1⟩
    have BV := BV.below hb1 BV.lt
    have G0 := below_after G0 hb1
    clear p0 p1 p2 p3 p4 p5 p6 pf pl
    obtain ⟨p0, p1, p2, p3, p4, p5, p6, pf, pl⟩ := BV.seven
    go_wp2_with fail
    refine (owns_impl x key _ (hin.below G0) H3.out).mono ?_
    rintro e w2 ⟨rfl, hb2⟩
    have G0 := below_after G0 hb2
    go_wp2
    go_ret
    exact ⟨by rw [serverOwnsB, HO.out]; rfl, G0⟩

set_option maxHeartbeats 2000000 in
theorem ServerOwns_spec (x : Ms) (key : Int) (w : World) (hin : ServIn w x) (hf : FewS x) :
    Calls Try.prog 32 #[.agg #[.int .i64 x.site, .bool x.up, .slice x.sa x.slots.length x.sc, .slice x.va x.vers.length x.vc, .slice x.wa x.waits.length x.wc, .slice x.oa x.owes.length x.oc, .slice x.ka x.knows.length x.kc], .int .i64 key] w (Says (serverOwnsB x key) w) := by
  obtain ⟨site, up, slots, vers, waits, owes, knows, sa, sc, va, vc, wa, wc, oa, oc, ka, kc⟩ := x
  show Calls Try.prog 32 #[.agg #[.int .i64 site, .bool up, .slice sa slots.length sc, .slice va vers.length vc, .slice wa waits.length wc, .slice oa owes.length oc, .slice ka knows.length kc], .int .i64 key] w _
  have BV := Blk.new w #[.int .i64 site, .bool up, .slice sa slots.length sc, .slice va vers.length vc, .slice wa waits.length wc, .slice oa owes.length oc, .slice ka knows.length kc] 59
  have G0 := below_box w (.cells #[.int .i64 site, .bool up, .slice sa slots.length sc, .slice va vers.length vc, .slice wa waits.length wc, .slice oa owes.length oc, .slice ka knows.length kc] 59)
  obtain ⟨p0, p1, p2, p3, p4, p5, p6, pf, pl⟩ := BV.seven
  go_enter Try.func32, Try.ntmps32
  rcases ho : serverOkB ⟨site, up, slots, vers, waits, owes, knows, sa, sc, va, vc, wa, wc, oa, oc, ka, kc⟩ with _ | _
  · have HO := Lib.hid ho
    clear ho
    go_wp2
    refine region_over (by kernel_rfl) (by kernel_rfl) ?_
    repeat (go_big_quiet_step (first | (go_at_call 28; exact quiet_over (bool_is HO.out (ServerOk_spec _ _ ((hin.below G0).below (over_below _ _)) hf)))))
    refine wpQuiet_nil ?_
    intro w9 hb9
    have G1 := below_after G0 hb9
    go_wp2
    go_ret
    exact ⟨by rw [serverOwnsB, HO.out]; rfl, G1⟩
  have HO := Lib.hid ho
  have H3 := Lib.hid (serv_slots ho)
  clear ho
  rcases hk : inB key 0 5 with _ | _
  · have HK := Lib.hid hk
    clear hk
    go_wp2
    refine region_over (by kernel_rfl) (by kernel_rfl) ?_
    repeat (go_big_quiet_step (first | (go_at_call 28; exact quiet_over (bool_is HO.out (ServerOk_spec _ _ ((hin.below G0).below (over_below _ _)) hf))) | (go_at_call 52; exact quiet_over_same (bool_is HK.out (isKey_spec _ _)))))
    refine wpQuiet_nil ?_
    intro w9 hb9
    have G1 := below_after G0 hb9
    go_wp2
    go_ret
    exact ⟨by rw [serverOwnsB, HO.out, HK.out]; rfl, G1⟩
  have HK := Lib.hid hk
  obtain ⟨hv0, hv1, hv2, hv3⟩ := slot_range hk
  clear hk
  obtain ⟨j, hj⟩ : ∃ j : Nat, verSlotI key = (j : Int) := ⟨_, hv2.symm⟩
  have hjl : j < slots.length := by have : slots.length = 3 := H3.out; omega
  obtain ⟨b, off, hp, hbl0, c0', c1'⟩ := slot_cell hin.sl j hjl
  have c1 := (G0.cell (p := ⟨b, off + j * 2 + 1, none⟩) hbl0).trans c1'
  have hbl := Nat.lt_of_lt_of_le hbl0 G0.size
  clear c0' c1'
  have hi0 : (0 : Int) ≤ (j : Int) := by omega
  have hi1 : (j : Int) < (slots.length : Int) := by omega
  have HH := Lib.hid (stand_get hj hjl)
  clear hv0 hv1 hv2 hv3
  clear BV p0 p1 p2 p3 p4 p5 p6 pf pl
  subst hp
  have BV := Blk.new w #[.int .i64 site, .bool up, .slice (some ⟨b, off, none⟩) slots.length sc, .slice va vers.length vc, .slice wa waits.length wc, .slice oa owes.length oc, .slice ka knows.length kc] 59
  obtain ⟨p0, p1, p2, p3, p4, p5, p6, pf, pl⟩ := BV.seven
  by_cases hs : slots[j].2 = 1
  · have HR : Hid (decide (standI slots key = 1) = true) := by show _ = _; rw [HH.out]; exact decide_eq_true hs
    have hs' : (slots[j].2 == 1) = true := by simpa using hs
    clear hs
    go_wp2
    refine region_over (by kernel_rfl) (by kernel_rfl) ?_
    repeat (go_big_quiet_step (first | (go_at_call 28; exact quiet_over (bool_is HO.out (ServerOk_spec _ _ ((hin.below G0).below (over_below _ _)) hf))) | (go_at_call 52; exact quiet_over_same (bool_is HK.out (isKey_spec _ _))) | (go_at_call 84; exact quiet_over_same (int_is hj (verSlot_spec _ _)))))
    refine wpQuiet_nil ?_
    intro w9 hb9
    have G1 := below_after G0 hb9
    go_wp2
    go_ret
    exact ⟨by rw [serverOwnsB, HO.out, HK.out, HR.out]; rfl, G1⟩
  · have HR : Hid (decide (standI slots key = 1) = false) := by show _ = _; rw [HH.out]; exact decide_eq_false hs
    have hs' : (slots[j].2 == 1) = false := by simpa using hs
    clear hs
    go_wp2
    refine region_over (by kernel_rfl) (by kernel_rfl) ?_
    repeat (go_big_quiet_step (first | (go_at_call 28; exact quiet_over (bool_is HO.out (ServerOk_spec _ _ ((hin.below G0).below (over_below _ _)) hf))) | (go_at_call 52; exact quiet_over_same (bool_is HK.out (isKey_spec _ _))) | (go_at_call 84; exact quiet_over_same (int_is hj (verSlot_spec _ _)))))
    refine wpQuiet_nil ?_
    intro w9 hb9
    have G1 := below_after G0 hb9
    go_wp2
    go_ret
    exact ⟨by rw [serverOwnsB, HO.out, HK.out, HR.out]; rfl, G1⟩

end Go.Proofs.Ythciikogogkfcaa
