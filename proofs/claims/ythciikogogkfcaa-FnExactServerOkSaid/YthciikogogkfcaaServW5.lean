/- A server's validity: the reference's, a server that is up. -/
import Derived.Test.YthciikogogkfcaaServW3
import Derived.Deep.CutRange
import Derived.Deep.RegionHeld3
namespace Go.Proofs.Ythciikogogkfcaa
open Go.RowKit Go.Deep
set_option linter.unusedVariables false

set_option maxRecDepth 100000 in
set_option maxHeartbeats 16000000 in
theorem ServerOk_spec_true (site : Int) (slots : List (Int × Int)) (vers waits : List Mv) (owes knows : List Dp) (sa : Option Addr) (sc : Nat) (va : Option Addr) (vc : Nat) (wa : Option Addr) (wc : Nat) (oa : Option Addr) (oc : Nat) (ka : Option Addr) (kc : Nat) (w : World) (hin : ServIn w ⟨site, true, slots, vers, waits, owes, knows, sa, sc, va, vc, wa, wc, oa, oc, ka, kc⟩) (hf : FewS ⟨site, true, slots, vers, waits, owes, knows, sa, sc, va, vc, wa, wc, oa, oc, ka, kc⟩) :
    Calls Try.prog 28 #[.agg #[.int .i64 site, .bool true, .slice sa slots.length sc, .slice va vers.length vc, .slice wa waits.length wc, .slice oa owes.length oc, .slice ka knows.length kc]] w (Says (serverOkB ⟨site, true, slots, vers, waits, owes, knows, sa, sc, va, vc, wa, wc, oa, oc, ka, kc⟩) w) := by
  have BV := Blk.new w #[.int .i64 site, .bool true, .slice sa slots.length sc, .slice va vers.length vc, .slice wa waits.length wc, .slice oa owes.length oc, .slice ka knows.length kc] 59
  have G0 := below_box w (.cells #[.int .i64 site, .bool true, .slice sa slots.length sc, .slice va vers.length vc, .slice wa waits.length wc, .slice oa owes.length oc, .slice ka knows.length kc] 59)
  have hl1 : slots.length ≤ 1048577 := hf.sl
  have hl2 : vers.length ≤ 1048577 := hf.vr.1
  have hl3 : waits.length ≤ 1048577 := hf.wt.1
  have hl4 : owes.length ≤ 1048577 := hf.ow
  obtain ⟨p0, p1, p2, p3, p4, p5, p6, pf, pl⟩ := BV.seven
  go_enter Try.func28, Try.ntmps28
  try simp only [List.append_eq, List.cons_append, List.nil_append]
  go_wp2_with fail
  refine (isSite_spec _ _).mono ?_
  rintro e w' ⟨rfl, rfl⟩
  rcases h0 : inB site 0 3 with _ | _
  · skip
    have HB : Hid (serverOkB ⟨site, true, slots, vers, waits, owes, knows, sa, sc, va, vc, wa, wc, oa, oc, ka, kc⟩ = false) := by show _ = _; simp [serverOkB, headB, h0]
    go_wp2
    go_ret
    exact ⟨by rw [HB.out]; rfl, G0⟩
  by_cases h1 : slots.length = 3
  rotate_left
  · have h1' : ((slots.length : Int) != 3) = true := by simp; omega
    have HB : Hid (serverOkB ⟨site, true, slots, vers, waits, owes, knows, sa, sc, va, vc, wa, wc, oa, oc, ka, kc⟩ = false) := by show _ = _; simp [serverOkB, headB, h1]
    clear h1
    go_wp2
    go_ret
    exact ⟨by rw [HB.out]; rfl, G0⟩
  have h1' : ((slots.length : Int) != 3) = false := by simp; omega
  have H3 := Lib.hid h1
  clear h1
  go_wp2_with fail
  refine (ChainOk_spec vers va vc _ (hin.vr.below G0) hf.vr).mono ?_
  rintro e w2 ⟨rfl, hb2⟩
  have BV := BV.below hb2 BV.lt
  have G0 := below_after G0 hb2
  clear p0 p1 p2 p3 p4 p5 p6 pf pl
  obtain ⟨p0, p1, p2, p3, p4, p5, p6, pf, pl⟩ := BV.seven
  rcases h2 : chainOkB (vs vers) with _ | _
  · skip
    have HB : Hid (serverOkB ⟨site, true, slots, vers, waits, owes, knows, sa, sc, va, vc, wa, wc, oa, oc, ka, kc⟩ = false) := by show _ = _; simp [serverOkB, headB, h0, H3.out, h2]
    go_wp2
    go_ret
    exact ⟨by rw [HB.out]; rfl, G0⟩
  go_wp2_with fail
  refine (ChainOk_spec waits wa wc _ (hin.wt.below G0) hf.wt).mono ?_
  rintro e w3 ⟨rfl, hb3⟩
  have BV := BV.below hb3 BV.lt
  have G0 := below_after G0 hb3
  clear p0 p1 p2 p3 p4 p5 p6 pf pl
  obtain ⟨p0, p1, p2, p3, p4, p5, p6, pf, pl⟩ := BV.seven
  rcases h3 : chainOkB (vs waits) with _ | _
  · skip
    have HB : Hid (serverOkB ⟨site, true, slots, vers, waits, owes, knows, sa, sc, va, vc, wa, wc, oa, oc, ka, kc⟩ = false) := by show _ = _; simp [serverOkB, headB, h0, H3.out, h2, h3]
    go_wp2
    go_ret
    exact ⟨by rw [HB.out]; rfl, G0⟩
  go_wp2_with fail
  refine (debts_spec owes oa oc _ (hin.ow.below G0) hf.ow).mono ?_
  rintro e w4 ⟨rfl, hb4⟩
  have BV := BV.below hb4 BV.lt
  have G0 := below_after G0 hb4
  clear p0 p1 p2 p3 p4 p5 p6 pf pl
  obtain ⟨p0, p1, p2, p3, p4, p5, p6, pf, pl⟩ := BV.seven
  rcases h4 : debtsB owes with _ | _
  · skip
    have HB : Hid (serverOkB ⟨site, true, slots, vers, waits, owes, knows, sa, sc, va, vc, wa, wc, oa, oc, ka, kc⟩ = false) := by show _ = _; simp [serverOkB, headB, h0, H3.out, h2, h3, h4]
    go_wp2
    go_ret
    exact ⟨by rw [HB.out]; rfl, G0⟩
  go_wp2_with fail
  refine (debts_spec knows ka kc _ (hin.kn.below G0) hf.kn).mono ?_
  rintro e w5 ⟨rfl, hb5⟩
  have BV := BV.below hb5 BV.lt
  have G0 := below_after G0 hb5
  clear p0 p1 p2 p3 p4 p5 p6 pf pl
  obtain ⟨p0, p1, p2, p3, p4, p5, p6, pf, pl⟩ := BV.seven
  rcases h5 : debtsB knows with _ | _
  · skip
    have HB : Hid (serverOkB ⟨site, true, slots, vers, waits, owes, knows, sa, sc, va, vc, wa, wc, oa, oc, ka, kc⟩ = false) := by show _ = _; simp [serverOkB, headB, h0, H3.out, h2, h3, h4, h5]
    go_wp2
    go_ret
    exact ⟨by rw [HB.out]; rfl, G0⟩
  have HC2 := Lib.hid h2
  have HC3 := Lib.hid h3
  clear h2 h3
  have HD : Hid (headB ⟨site, true, slots, vers, waits, owes, knows, sa, sc, va, vc, wa, wc, oa, oc, ka, kc⟩ = true) := by show _ = _; simp [headB, h0, H3.out, HC2.out, HC3.out, h4, h5]
  go_wp2
  go_loopw [3] (fun i wr => ∃ k : Nat, k ≤ slots.length ∧ i = .int .i64 k ∧ slotsB (slots.take k) = true ∧ Blk wr w.heap.size #[.int .i64 site, .bool true, .slice sa slots.length sc, .slice va vers.length vc, .slice wa waits.length wc, .slice oa owes.length oc, .slice ka knows.length kc] 59 ∧ Below w.heap.size w wr) (fun i _ => slots.length - (intOf i).toNat)
  case atStart => exact ⟨0, Nat.zero_le _, rfl, rfl, BV, G0⟩
  case round =>
    obtain ⟨k, hk, rfl, hok, BV, hBw⟩ := hrel
    have HO := Lib.hid hok
    clear hok
    clear p0 p1 p2 p3 p4 p5 p6 pf pl
    by_cases hlt : k < slots.length
    · have hi0 : (0 : Int) ≤ (k : Int) := by omega
      have hi1 : (k : Int) < (slots.length : Int) := by omega
      obtain ⟨b, off, rfl, hbl, c0, c1⟩ := slot_cell (hin.sl.below hBw) k hlt
      have HT := Lib.hid (all_take (p := slotB) slots k hlt)
      obtain ⟨p0, p1, p2, p3, p4, p5, p6, pf, pl⟩ := BV.seven
      rcases hA : inB slots[k].1 0 9999 with _ | _
      · have HN : Hid (serverOkB ⟨site, true, slots, vers, waits, owes, knows, (some ⟨b, off, none⟩), sc, va, vc, wa, wc, oa, oc, ka, kc⟩ = false) := serv_no1 (all_bad k hlt (slotB_1 (p := slots[k]) hA))
        go_wp2_with (first | (go_at_call 54; refine (in_spec _ _ _ _).mono ?_; rintro e w' ⟨rfl, rfl⟩))
        go_ret
        exact ⟨by rw [HN.out]; rfl, hBw⟩
      rcases hB : inB slots[k].2 0 2 with _ | _
      · have HN : Hid (serverOkB ⟨site, true, slots, vers, waits, owes, knows, (some ⟨b, off, none⟩), sc, va, vc, wa, wc, oa, oc, ka, kc⟩ = false) := serv_no1 (all_bad k hlt (slotB_2 (p := slots[k]) hB))
        go_wp2_with (first | (go_at_call 54; refine (in_spec _ _ _ _).mono ?_; rintro e w' ⟨rfl, rfl⟩))
        go_ret
        exact ⟨by rw [HN.out]; rfl, hBw⟩
      by_cases hs : slots[k].2 = 0
      · have HN : Hid (slotsB (slots.take (k + 1)) = true) := by show _ = _; unfold slotsB; rw [HT.out, show (slots.take k).all slotB = true from HO.out, slotB_4 hA hB (.inl hs)]; rfl
        have hs' : (slots[k].2 != 0) = false := by simp [hs]
        clear hs
        go_wp2_with (first | (go_at_call 54; refine (in_spec _ _ _ _).mono ?_; rintro e w' ⟨rfl, rfl⟩))
        go_roundw
        case rel => exact ⟨k + 1, by omega, by go_num, HN.out, BV, hBw⟩
        case measure => simp [intOf]; omega
      · have hs' : (slots[k].2 != 0) = true := by simpa using hs
        by_cases he : slots[k].1 < 1
        · have HN : Hid (serverOkB ⟨site, true, slots, vers, waits, owes, knows, (some ⟨b, off, none⟩), sc, va, vc, wa, wc, oa, oc, ka, kc⟩ = false) := serv_no1 (all_bad k hlt (slotB_3 (p := slots[k]) hs (by omega)))
          have he' : decide (slots[k].1 < 1) = true := decide_eq_true he
          clear hs
          go_wp2_with (first | (go_at_call 54; refine (in_spec _ _ _ _).mono ?_; rintro e w' ⟨rfl, rfl⟩))
          go_ret
          exact ⟨by rw [HN.out]; rfl, hBw⟩
        · have HN : Hid (slotsB (slots.take (k + 1)) = true) := by show _ = _; unfold slotsB; rw [HT.out, show (slots.take k).all slotB = true from HO.out, slotB_4 hA hB (.inr (by omega))]; rfl
          have he' : decide (slots[k].1 < 1) = false := decide_eq_false he
          have he'' : (1 : Int) ≤ slots[k].1 := by omega
          clear hs he
          go_wp2_with (first | (go_at_call 54; refine (in_spec _ _ _ _).mono ?_; rintro e w' ⟨rfl, rfl⟩))
          go_roundw
          case rel => exact ⟨k + 1, by omega, by go_num, HN.out, BV, hBw⟩
          case measure => simp [intOf]; omega
    obtain rfl : k = slots.length := by omega
    have H1 : Hid (slotsB slots = true) := all_end HO.out
    clear HO hk hlt
    obtain ⟨p0, p1, p2, p3, p4, p5, p6, pf, pl⟩ := BV.seven
    have GA := hBw
    clear hBw
    go_wp2_with fail
    refine (l21Vers_spec ⟨site, true, slots, vers, waits, owes, knows, sa, sc, va, vc, wa, wc, oa, oc, ka, kc⟩ vers va vc _ (hin.sl.below GA) H3.out (hin.vr.below GA) HC2.out hl2).mono ?_
    rintro e w6 ⟨rfl, hb6⟩
    have BV := BV.below hb6 BV.lt
    have GB := below_after GA hb6
    clear p0 p1 p2 p3 p4 p5 p6 pf pl
    obtain ⟨p0, p1, p2, p3, p4, p5, p6, pf, pl⟩ := BV.seven
    rcases hv1 : versHereB slots (vs vers) with _ | _
    · have HN : Hid (serverOkB ⟨site, true, slots, vers, waits, owes, knows, sa, sc, va, vc, wa, wc, oa, oc, ka, kc⟩ = false) := serv_no2 hv1
      go_wp2
      go_ret
      exact ⟨by rw [HN.out]; rfl, GB⟩
    have H2 := Lib.hid hv1
    go_wp2_with fail
    refine (l21Vers_spec ⟨site, true, slots, vers, waits, owes, knows, sa, sc, va, vc, wa, wc, oa, oc, ka, kc⟩ waits wa wc _ (hin.sl.below GB) H3.out (hin.wt.below GB) HC3.out hl3).mono ?_
    rintro e w7 ⟨rfl, hb7⟩
    have BV := BV.below hb7 BV.lt
    have GC := below_after GB hb7
    clear p0 p1 p2 p3 p4 p5 p6 pf pl
    obtain ⟨p0, p1, p2, p3, p4, p5, p6, pf, pl⟩ := BV.seven
    rcases hv2 : versHereB slots (vs waits) with _ | _
    · have HN : Hid (serverOkB ⟨site, true, slots, vers, waits, owes, knows, sa, sc, va, vc, wa, wc, oa, oc, ka, kc⟩ = false) := serv_no3 hv2
      go_wp2
      go_ret
      exact ⟨by rw [HN.out]; rfl, GC⟩
    have H2' := Lib.hid hv2
    clear GA GB
    go_wp2
    go_loopw [4] (fun i wr => ∃ k : Nat, k ≤ waits.length ∧ i = .int .i64 k ∧ waitsB site (vs vers) ((vs waits).take k) = true ∧ Blk wr w.heap.size #[.int .i64 site, .bool true, .slice sa slots.length sc, .slice va vers.length vc, .slice wa waits.length wc, .slice oa owes.length oc, .slice ka knows.length kc] 59 ∧ Below w.heap.size w wr) (fun i _ => waits.length - (intOf i).toNat)
    case atStart => exact ⟨0, Nat.zero_le _, rfl, by simp [waitsB], BV, GC⟩
    case round =>
      obtain ⟨k, hk, rfl, hok, BV, hBw⟩ := hrel
      have HO := Lib.hid hok
      clear hok
      clear p0 p1 p2 p3 p4 p5 p6 pf pl
      by_cases hlt : k < waits.length
      · have hi0 : (0 : Int) ≤ (k : Int) := by omega
        have hi1 : (k : Int) < (waits.length : Int) := by omega
        have hv := hin.wt.below hBw
        obtain ⟨b, off, rfl, hbl, c0, c1, c2, _⟩ := hv.at_ k hlt
        have HU := Lib.hid (all_vs (p := waitB site (vs vers)) waits k hlt)
        obtain ⟨p0, p1, p2, p3, p4, p5, p6, pf, pl⟩ := BV.seven
        clear hv
        rcases hp : hasV (vs vers) (waits[k].v.key, waits[k].v.time, waits[k].v.site) with _ | _
        · have HG : Hid ((atV (vs vers) (waits[k].v.key, waits[k].v.time, waits[k].v.site)).isSome = false) := by show _ = _; rw [atV_ok HC2.out, ← hasV_get, hp]
          by_cases hsd : siteSideI waits[k].v.site = siteSideI site
          · have HN : Hid (serverOkB ⟨site, true, slots, vers, waits, owes, knows, sa, sc, va, vc, (some ⟨b, off, none⟩), wc, oa, oc, ka, kc⟩ = false) := serv_no4 (all_vs_bad (p := waitB site (vs vers)) k hlt (by unfold waitB; rw [decide_eq_true hsd]; rfl))
            have hsd' : (siteSideI waits[k].v.site == siteSideI site) = true := by simpa using hsd
            clear hsd hp
            have hBl := BV.lt
            have hS : ∀ W, Below wr.heap.size wr W → W.cell? ⟨w.heap.size, 3, none⟩ = some (.slice va vers.length vc) ∧ W.cell? ⟨w.heap.size, 4, none⟩ = some (.slice (some ⟨b, off, none⟩) waits.length wc) ∧ W.cell? ⟨b, off + k * 7, none⟩ = some (.int .i64 waits[k].v.key) ∧ W.cell? ⟨b, off + k * 7 + 1, none⟩ = some (.int .i64 waits[k].v.time) ∧ W.cell? ⟨b, off + k * 7 + 2, none⟩ = some (.int .i64 waits[k].v.site) := fun W hb => ⟨(hb.cell (p := ⟨w.heap.size, 3, none⟩) hBl).trans p3, (hb.cell (p := ⟨w.heap.size, 4, none⟩) hBl).trans p4, (hb.cell (p := ⟨b, off + k * 7, none⟩) hbl).trans c0, (hb.cell (p := ⟨b, off + k * 7 + 1, none⟩) hbl).trans c1, (hb.cell (p := ⟨b, off + k * 7 + 2, none⟩) hbl).trans c2⟩
            have HS := Lib.hid hS
            clear hS
            have hBr := Below.refl wr.heap.size wr
            have hvr := hin.vr.below hBw
            have hfv : Few vers := hf.vr
            go_upto_region 13 with fail
            go_cut [5, 6] from 110 to 149 (fun _ ok wx => ok = .bool false ∧ Below wr.heap.size wr wx)
            case first =>
              go_region_held3 (fun W => W.cell? ⟨w.heap.size, 3, none⟩ = some (.slice va vers.length vc) ∧ W.cell? ⟨w.heap.size, 4, none⟩ = some (.slice (some ⟨b, off, none⟩) waits.length wc) ∧ W.cell? ⟨b, off + k * 7, none⟩ = some (.int .i64 waits[k].v.key) ∧ W.cell? ⟨b, off + k * 7 + 1, none⟩ = some (.int .i64 waits[k].v.time) ∧ W.cell? ⟨b, off + k * 7 + 2, none⟩ = some (.int .i64 waits[k].v.site)) (exact HS.out _ (by repeat (first | (with_reducible exact hBr) | (with_reducible refine below_alloc ?_ _) | (with_reducible refine below_setb ?_ (by omega) _) | (with_reducible refine Below.drew ?_)))) (first | (go_at_call 15; (with_reducible refine (ChainAt_is vers (waits[k].v.key, waits[k].v.time, waits[k].v.site) va vc _ (hvr.below (by repeat (first | (with_reducible exact hBr) | (with_reducible refine below_alloc ?_ _) | (with_reducible refine below_setb ?_ (by omega) _) | (with_reducible refine Below.drew ?_)))) hfv _ HG.out).mono ?_); rintro e w3 ⟨v3, q3, k3, rfl, hb⟩; have hBr := below_after (w := wr) (by repeat (first | (with_reducible exact hBr) | (with_reducible refine below_alloc ?_ _) | (with_reducible refine below_setb ?_ (by omega) _) | (with_reducible refine Below.drew ?_))) hb; have hsz3 := hBr.size; first | (have BZ := (Blk.drew (Blk.new wr #[.int .i64 0, .int .i64 0, .int .i64 0, .int .i64 0, .int .i64 0, .int .i64 0, .slice none 0 0] 27)).below hb (Blk.drew (Blk.new wr #[.int .i64 0, .int .i64 0, .int .i64 0, .int .i64 0, .int .i64 0, .int .i64 0, .slice none 0 0] 27)).lt; obtain ⟨z0, z1, z2, z3, z4, z5, z6, zf, zl⟩ := BZ.seven) | skip))
              all_goals (
                go_wp2_with fail
                go_meet
                case rel => exact ⟨rfl, (by repeat (first | (with_reducible exact hBr) | (with_reducible refine below_alloc ?_ _) | (with_reducible refine below_setb ?_ (by omega) _) | (with_reducible refine Below.drew ?_)))⟩)
            case rest =>
              obtain ⟨rfl, hbe⟩ := hcut
              clear hBr HS hBl hvr
              have G0 := below_after hBw hbe
              have BV := BV.below hbe BV.lt
              clear p0 p1 p2 p3 p4 p5 p6 pf pl
              obtain ⟨p0, p1, p2, p3, p4, p5, p6, pf, pl⟩ := BV.seven
              have hc3 := cells3 hbe hbl c0 c1 c2
              obtain ⟨c0, c1, c2, hbl⟩ := hc3
              go_wp2
              refine region_over (by kernel_rfl) (by kernel_rfl) ?_
              repeat (go_big_quiet_step (first | (go_at_call 75; exact quiet_over_same (siteSide_spec _ _))))
              refine wpQuiet_nil ?_
              intro w9 hb9
              have G1 := below_after G0 hb9
              have BV := BV.below hb9 BV.lt
              go_wp2
              go_ret
              exact ⟨by rw [HN.out]; rfl, G1⟩
          · have HN : Hid (waitsB site (vs vers) ((vs waits).take (k + 1)) = true) := by
              show _ = _
              unfold waitsB; rw [HU.out, show ((vs waits).take k).all _ = true from HO.out]; unfold waitB; rw [decide_eq_false hsd, hp]; rfl
            have hsd' : (siteSideI waits[k].v.site == siteSideI site) = false := by simpa using hsd
            clear hsd hp
            have hBl := BV.lt
            have hS : ∀ W, Below wr.heap.size wr W → W.cell? ⟨w.heap.size, 3, none⟩ = some (.slice va vers.length vc) ∧ W.cell? ⟨w.heap.size, 4, none⟩ = some (.slice (some ⟨b, off, none⟩) waits.length wc) ∧ W.cell? ⟨b, off + k * 7, none⟩ = some (.int .i64 waits[k].v.key) ∧ W.cell? ⟨b, off + k * 7 + 1, none⟩ = some (.int .i64 waits[k].v.time) ∧ W.cell? ⟨b, off + k * 7 + 2, none⟩ = some (.int .i64 waits[k].v.site) := fun W hb => ⟨(hb.cell (p := ⟨w.heap.size, 3, none⟩) hBl).trans p3, (hb.cell (p := ⟨w.heap.size, 4, none⟩) hBl).trans p4, (hb.cell (p := ⟨b, off + k * 7, none⟩) hbl).trans c0, (hb.cell (p := ⟨b, off + k * 7 + 1, none⟩) hbl).trans c1, (hb.cell (p := ⟨b, off + k * 7 + 2, none⟩) hbl).trans c2⟩
            have HS := Lib.hid hS
            clear hS
            have hBr := Below.refl wr.heap.size wr
            have hvr := hin.vr.below hBw
            have hfv : Few vers := hf.vr
            go_upto_region 13 with fail
            go_cut [5, 6] from 110 to 149 (fun _ ok wx => ok = .bool false ∧ Below wr.heap.size wr wx)
            case first =>
              go_region_held3 (fun W => W.cell? ⟨w.heap.size, 3, none⟩ = some (.slice va vers.length vc) ∧ W.cell? ⟨w.heap.size, 4, none⟩ = some (.slice (some ⟨b, off, none⟩) waits.length wc) ∧ W.cell? ⟨b, off + k * 7, none⟩ = some (.int .i64 waits[k].v.key) ∧ W.cell? ⟨b, off + k * 7 + 1, none⟩ = some (.int .i64 waits[k].v.time) ∧ W.cell? ⟨b, off + k * 7 + 2, none⟩ = some (.int .i64 waits[k].v.site)) (exact HS.out _ (by repeat (first | (with_reducible exact hBr) | (with_reducible refine below_alloc ?_ _) | (with_reducible refine below_setb ?_ (by omega) _) | (with_reducible refine Below.drew ?_)))) (first | (go_at_call 15; (with_reducible refine (ChainAt_is vers (waits[k].v.key, waits[k].v.time, waits[k].v.site) va vc _ (hvr.below (by repeat (first | (with_reducible exact hBr) | (with_reducible refine below_alloc ?_ _) | (with_reducible refine below_setb ?_ (by omega) _) | (with_reducible refine Below.drew ?_)))) hfv _ HG.out).mono ?_); rintro e w3 ⟨v3, q3, k3, rfl, hb⟩; have hBr := below_after (w := wr) (by repeat (first | (with_reducible exact hBr) | (with_reducible refine below_alloc ?_ _) | (with_reducible refine below_setb ?_ (by omega) _) | (with_reducible refine Below.drew ?_))) hb; have hsz3 := hBr.size; first | (have BZ := (Blk.drew (Blk.new wr #[.int .i64 0, .int .i64 0, .int .i64 0, .int .i64 0, .int .i64 0, .int .i64 0, .slice none 0 0] 27)).below hb (Blk.drew (Blk.new wr #[.int .i64 0, .int .i64 0, .int .i64 0, .int .i64 0, .int .i64 0, .int .i64 0, .slice none 0 0] 27)).lt; obtain ⟨z0, z1, z2, z3, z4, z5, z6, zf, zl⟩ := BZ.seven) | skip))
              all_goals (
                go_wp2_with fail
                go_meet
                case rel => exact ⟨rfl, (by repeat (first | (with_reducible exact hBr) | (with_reducible refine below_alloc ?_ _) | (with_reducible refine below_setb ?_ (by omega) _) | (with_reducible refine Below.drew ?_)))⟩)
            case rest =>
              obtain ⟨rfl, hbe⟩ := hcut
              clear hBr HS hBl hvr
              have G0 := below_after hBw hbe
              have BV := BV.below hbe BV.lt
              clear p0 p1 p2 p3 p4 p5 p6 pf pl
              obtain ⟨p0, p1, p2, p3, p4, p5, p6, pf, pl⟩ := BV.seven
              have hc3 := cells3 hbe hbl c0 c1 c2
              obtain ⟨c0, c1, c2, hbl⟩ := hc3
              go_wp2
              refine region_over (by kernel_rfl) (by kernel_rfl) ?_
              repeat (go_big_quiet_step (first | (go_at_call 75; exact quiet_over_same (siteSide_spec _ _))))
              refine wpQuiet_nil ?_
              intro w9 hb9
              have G1 := below_after G0 hb9
              have BV := BV.below hb9 BV.lt
              go_wp2
              go_roundw
              case rel => exact ⟨k + 1, by omega, by go_num, HN.out, BV, G1⟩
              case measure => simp [intOf]; omega
        · have HG : Hid ((atV (vs vers) (waits[k].v.key, waits[k].v.time, waits[k].v.site)).isSome = true) := by show _ = _; rw [atV_ok HC2.out, ← hasV_get, hp]
          have HN : Hid (serverOkB ⟨site, true, slots, vers, waits, owes, knows, sa, sc, va, vc, (some ⟨b, off, none⟩), wc, oa, oc, ka, kc⟩ = false) := serv_no4 (all_vs_bad (p := waitB site (vs vers)) k hlt (by unfold waitB; rw [hp, Bool.not_true, Bool.and_false]))
          clear hp
          have hBl := BV.lt
          have hS : ∀ W, Below wr.heap.size wr W → W.cell? ⟨w.heap.size, 3, none⟩ = some (.slice va vers.length vc) ∧ W.cell? ⟨w.heap.size, 4, none⟩ = some (.slice (some ⟨b, off, none⟩) waits.length wc) ∧ W.cell? ⟨b, off + k * 7, none⟩ = some (.int .i64 waits[k].v.key) ∧ W.cell? ⟨b, off + k * 7 + 1, none⟩ = some (.int .i64 waits[k].v.time) ∧ W.cell? ⟨b, off + k * 7 + 2, none⟩ = some (.int .i64 waits[k].v.site) := fun W hb => ⟨(hb.cell (p := ⟨w.heap.size, 3, none⟩) hBl).trans p3, (hb.cell (p := ⟨w.heap.size, 4, none⟩) hBl).trans p4, (hb.cell (p := ⟨b, off + k * 7, none⟩) hbl).trans c0, (hb.cell (p := ⟨b, off + k * 7 + 1, none⟩) hbl).trans c1, (hb.cell (p := ⟨b, off + k * 7 + 2, none⟩) hbl).trans c2⟩
          have HS := Lib.hid hS
          clear hS
          have hBr := Below.refl wr.heap.size wr
          have hvr := hin.vr.below hBw
          have hfv : Few vers := hf.vr
          go_upto_region 13 with fail
          go_cut [5, 6] from 110 to 149 (fun _ ok wx => ok = .bool true ∧ Below wr.heap.size wr wx)
          case first =>
            go_region_held3 (fun W => W.cell? ⟨w.heap.size, 3, none⟩ = some (.slice va vers.length vc) ∧ W.cell? ⟨w.heap.size, 4, none⟩ = some (.slice (some ⟨b, off, none⟩) waits.length wc) ∧ W.cell? ⟨b, off + k * 7, none⟩ = some (.int .i64 waits[k].v.key) ∧ W.cell? ⟨b, off + k * 7 + 1, none⟩ = some (.int .i64 waits[k].v.time) ∧ W.cell? ⟨b, off + k * 7 + 2, none⟩ = some (.int .i64 waits[k].v.site)) (exact HS.out _ (by repeat (first | (with_reducible exact hBr) | (with_reducible refine below_alloc ?_ _) | (with_reducible refine below_setb ?_ (by omega) _) | (with_reducible refine Below.drew ?_)))) (first | (go_at_call 15; (with_reducible refine (ChainAt_is vers (waits[k].v.key, waits[k].v.time, waits[k].v.site) va vc _ (hvr.below (by repeat (first | (with_reducible exact hBr) | (with_reducible refine below_alloc ?_ _) | (with_reducible refine below_setb ?_ (by omega) _) | (with_reducible refine Below.drew ?_)))) hfv _ HG.out).mono ?_); rintro e w3 ⟨v3, q3, k3, rfl, hb⟩; have hBr := below_after (w := wr) (by repeat (first | (with_reducible exact hBr) | (with_reducible refine below_alloc ?_ _) | (with_reducible refine below_setb ?_ (by omega) _) | (with_reducible refine Below.drew ?_))) hb; have hsz3 := hBr.size; first | (have BZ := (Blk.drew (Blk.new wr #[.int .i64 0, .int .i64 0, .int .i64 0, .int .i64 0, .int .i64 0, .int .i64 0, .slice none 0 0] 27)).below hb (Blk.drew (Blk.new wr #[.int .i64 0, .int .i64 0, .int .i64 0, .int .i64 0, .int .i64 0, .int .i64 0, .slice none 0 0] 27)).lt; obtain ⟨z0, z1, z2, z3, z4, z5, z6, zf, zl⟩ := BZ.seven) | skip))
            all_goals (
              go_wp2_with fail
              go_meet
              case rel => exact ⟨rfl, (by repeat (first | (with_reducible exact hBr) | (with_reducible refine below_alloc ?_ _) | (with_reducible refine below_setb ?_ (by omega) _) | (with_reducible refine Below.drew ?_)))⟩)
          case rest =>
            obtain ⟨rfl, hbe⟩ := hcut
            clear hBr HS hBl hvr
            have G0 := below_after hBw hbe
            have BV := BV.below hbe BV.lt
            clear p0 p1 p2 p3 p4 p5 p6 pf pl
            obtain ⟨p0, p1, p2, p3, p4, p5, p6, pf, pl⟩ := BV.seven
            have hc3 := cells3 hbe hbl c0 c1 c2
            obtain ⟨c0, c1, c2, hbl⟩ := hc3
            go_wp2
            refine region_over (by kernel_rfl) (by kernel_rfl) ?_
            repeat (go_big_quiet_step (first | (go_at_call 75; exact quiet_over_same (siteSide_spec _ _))))
            refine wpQuiet_nil ?_
            intro w9 hb9
            have G1 := below_after G0 hb9
            have BV := BV.below hb9 BV.lt
            go_wp2
            go_ret
            exact ⟨by rw [HN.out]; rfl, G1⟩
      obtain rfl : k = waits.length := by omega
      have H4 : Hid (waitsB site (vs vers) (vs waits) = true) := all_vs_end HO.out
      clear HO hk hlt
      obtain ⟨p0, p1, p2, p3, p4, p5, p6, pf, pl⟩ := BV.seven
      have GD := hBw
      clear hBw
      go_wp2
      go_loopw [7] (fun i wr => ∃ k : Nat, k ≤ owes.length ∧ i = .int .i64 k ∧ hasAllB (vs vers) (owes.take k) = true ∧ Blk wr w.heap.size #[.int .i64 site, .bool true, .slice sa slots.length sc, .slice va vers.length vc, .slice wa waits.length wc, .slice oa owes.length oc, .slice ka knows.length kc] 59 ∧ Below w.heap.size w wr) (fun i _ => owes.length - (intOf i).toNat)
      case atStart => exact ⟨0, Nat.zero_le _, rfl, by simp [hasAllB], BV, GD⟩
      case round =>
        obtain ⟨k, hk, rfl, hok, BV, hBw⟩ := hrel
        have HO := Lib.hid hok
        clear hok
        clear p0 p1 p2 p3 p4 p5 p6 pf pl
        by_cases hlt : k < owes.length
        · have hi0 : (0 : Int) ≤ (k : Int) := by omega
          have hi1 : (k : Int) < (owes.length : Int) := by omega
          obtain ⟨_, _, h3⟩ := hin.ow.below hBw
          obtain ⟨b, off, rfl, hbl, hcell⟩ := h3 (dpsC_ne (l := owes) (by omega))
          obtain ⟨g0, g1, g2⟩ := dpsC_get owes k hlt
          have c0 := hcell _ _ g0
          have c1 := hcell _ _ g1
          have c2 := hcell _ _ g2
          rw [← Nat.add_assoc] at c1 c2
          clear hcell h3 g0 g1 g2
          have HT := Lib.hid (hasAllB_take (vs vers) owes k hlt)
          obtain ⟨p0, p1, p2, p3, p4, p5, p6, pf, pl⟩ := BV.seven
          rcases hp : hasV (vs vers) owes[k] with _ | _
          · have HG : Hid ((atV (vs vers) owes[k]).isSome = false) := by show _ = _; rw [atV_ok HC2.out, ← hasV_get, hp]
            have HN : Hid (serverOkB ⟨site, true, slots, vers, waits, owes, knows, sa, sc, va, vc, wa, wc, (some ⟨b, off, none⟩), oc, ka, kc⟩ = false) := serv_no5 (hasAllB_bad k hlt hp)
            clear hp
            have hBl := BV.lt
            have hS : ∀ W, Below wr.heap.size wr W → W.cell? ⟨w.heap.size, 3, none⟩ = some (.slice va vers.length vc) ∧ W.cell? ⟨w.heap.size, 5, none⟩ = some (.slice (some ⟨b, off, none⟩) owes.length oc) ∧ W.cell? ⟨b, off + k * 3, none⟩ = some (.int .i64 owes[k].1) ∧ W.cell? ⟨b, off + k * 3 + 1, none⟩ = some (.int .i64 owes[k].2.1) ∧ W.cell? ⟨b, off + k * 3 + 2, none⟩ = some (.int .i64 owes[k].2.2) := fun W hb => ⟨(hb.cell (p := ⟨w.heap.size, 3, none⟩) hBl).trans p3, (hb.cell (p := ⟨w.heap.size, 5, none⟩) hBl).trans p5, (hb.cell (p := ⟨b, off + k * 3, none⟩) hbl).trans c0, (hb.cell (p := ⟨b, off + k * 3 + 1, none⟩) hbl).trans c1, (hb.cell (p := ⟨b, off + k * 3 + 2, none⟩) hbl).trans c2⟩
            have HS := Lib.hid hS
            clear hS
            have hBr := Below.refl wr.heap.size wr
            have hvr := hin.vr.below hBw
            have hfv : Few vers := hf.vr
            go_upto_region 19 with fail
            go_cut [8, 9] from 150 to 176 (fun _ ok wx => ok = .bool false ∧ Below wr.heap.size wr wx)
            case first =>
              go_region_held3 (fun W => W.cell? ⟨w.heap.size, 3, none⟩ = some (.slice va vers.length vc) ∧ W.cell? ⟨w.heap.size, 5, none⟩ = some (.slice (some ⟨b, off, none⟩) owes.length oc) ∧ W.cell? ⟨b, off + k * 3, none⟩ = some (.int .i64 owes[k].1) ∧ W.cell? ⟨b, off + k * 3 + 1, none⟩ = some (.int .i64 owes[k].2.1) ∧ W.cell? ⟨b, off + k * 3 + 2, none⟩ = some (.int .i64 owes[k].2.2)) (exact HS.out _ (by repeat (first | (with_reducible exact hBr) | (with_reducible refine below_alloc ?_ _) | (with_reducible refine below_setb ?_ (by omega) _) | (with_reducible refine Below.drew ?_)))) (first | (go_at_call 15; (with_reducible refine (ChainAt_is vers owes[k] va vc _ (hvr.below (by repeat (first | (with_reducible exact hBr) | (with_reducible refine below_alloc ?_ _) | (with_reducible refine below_setb ?_ (by omega) _) | (with_reducible refine Below.drew ?_)))) hfv _ HG.out).mono ?_); rintro e w3 ⟨v3, q3, k3, rfl, hb⟩; have hBr := below_after (w := wr) (by repeat (first | (with_reducible exact hBr) | (with_reducible refine below_alloc ?_ _) | (with_reducible refine below_setb ?_ (by omega) _) | (with_reducible refine Below.drew ?_))) hb; have hsz3 := hBr.size; first | (have BZ := (Blk.drew (Blk.new wr #[.int .i64 0, .int .i64 0, .int .i64 0, .int .i64 0, .int .i64 0, .int .i64 0, .slice none 0 0] 27)).below hb (Blk.drew (Blk.new wr #[.int .i64 0, .int .i64 0, .int .i64 0, .int .i64 0, .int .i64 0, .int .i64 0, .slice none 0 0] 27)).lt; obtain ⟨z0, z1, z2, z3, z4, z5, z6, zf, zl⟩ := BZ.seven) | skip))
              all_goals (
                go_wp2_with fail
                go_meet
                case rel => exact ⟨rfl, (by repeat (first | (with_reducible exact hBr) | (with_reducible refine below_alloc ?_ _) | (with_reducible refine below_setb ?_ (by omega) _) | (with_reducible refine Below.drew ?_)))⟩)
            case rest =>
              obtain ⟨rfl, hbe⟩ := hcut
              clear hBr HS hBl hvr
              have G0 := below_after hBw hbe
              have BV := BV.below hbe BV.lt
              clear p0 p1 p2 p3 p4 p5 p6 pf pl
              obtain ⟨p0, p1, p2, p3, p4, p5, p6, pf, pl⟩ := BV.seven
              have hc3 := cells3 hbe hbl c0 c1 c2
              obtain ⟨c0, c1, c2, hbl⟩ := hc3
              go_wp2
              go_ret
              exact ⟨by rw [HN.out]; rfl, G0⟩
          · have HG : Hid ((atV (vs vers) owes[k]).isSome = true) := by show _ = _; rw [atV_ok HC2.out, ← hasV_get, hp]
            have HN : Hid (hasAllB (vs vers) (owes.take (k + 1)) = true) := by show _ = _; rw [HT.out, HO.out, hp]; rfl
            clear hp
            have hBl := BV.lt
            have hS : ∀ W, Below wr.heap.size wr W → W.cell? ⟨w.heap.size, 3, none⟩ = some (.slice va vers.length vc) ∧ W.cell? ⟨w.heap.size, 5, none⟩ = some (.slice (some ⟨b, off, none⟩) owes.length oc) ∧ W.cell? ⟨b, off + k * 3, none⟩ = some (.int .i64 owes[k].1) ∧ W.cell? ⟨b, off + k * 3 + 1, none⟩ = some (.int .i64 owes[k].2.1) ∧ W.cell? ⟨b, off + k * 3 + 2, none⟩ = some (.int .i64 owes[k].2.2) := fun W hb => ⟨(hb.cell (p := ⟨w.heap.size, 3, none⟩) hBl).trans p3, (hb.cell (p := ⟨w.heap.size, 5, none⟩) hBl).trans p5, (hb.cell (p := ⟨b, off + k * 3, none⟩) hbl).trans c0, (hb.cell (p := ⟨b, off + k * 3 + 1, none⟩) hbl).trans c1, (hb.cell (p := ⟨b, off + k * 3 + 2, none⟩) hbl).trans c2⟩
            have HS := Lib.hid hS
            clear hS
            have hBr := Below.refl wr.heap.size wr
            have hvr := hin.vr.below hBw
            have hfv : Few vers := hf.vr
            go_upto_region 19 with fail
            go_cut [8, 9] from 150 to 176 (fun _ ok wx => ok = .bool true ∧ Below wr.heap.size wr wx)
            case first =>
              go_region_held3 (fun W => W.cell? ⟨w.heap.size, 3, none⟩ = some (.slice va vers.length vc) ∧ W.cell? ⟨w.heap.size, 5, none⟩ = some (.slice (some ⟨b, off, none⟩) owes.length oc) ∧ W.cell? ⟨b, off + k * 3, none⟩ = some (.int .i64 owes[k].1) ∧ W.cell? ⟨b, off + k * 3 + 1, none⟩ = some (.int .i64 owes[k].2.1) ∧ W.cell? ⟨b, off + k * 3 + 2, none⟩ = some (.int .i64 owes[k].2.2)) (exact HS.out _ (by repeat (first | (with_reducible exact hBr) | (with_reducible refine below_alloc ?_ _) | (with_reducible refine below_setb ?_ (by omega) _) | (with_reducible refine Below.drew ?_)))) (first | (go_at_call 15; (with_reducible refine (ChainAt_is vers owes[k] va vc _ (hvr.below (by repeat (first | (with_reducible exact hBr) | (with_reducible refine below_alloc ?_ _) | (with_reducible refine below_setb ?_ (by omega) _) | (with_reducible refine Below.drew ?_)))) hfv _ HG.out).mono ?_); rintro e w3 ⟨v3, q3, k3, rfl, hb⟩; have hBr := below_after (w := wr) (by repeat (first | (with_reducible exact hBr) | (with_reducible refine below_alloc ?_ _) | (with_reducible refine below_setb ?_ (by omega) _) | (with_reducible refine Below.drew ?_))) hb; have hsz3 := hBr.size; first | (have BZ := (Blk.drew (Blk.new wr #[.int .i64 0, .int .i64 0, .int .i64 0, .int .i64 0, .int .i64 0, .int .i64 0, .slice none 0 0] 27)).below hb (Blk.drew (Blk.new wr #[.int .i64 0, .int .i64 0, .int .i64 0, .int .i64 0, .int .i64 0, .int .i64 0, .slice none 0 0] 27)).lt; obtain ⟨z0, z1, z2, z3, z4, z5, z6, zf, zl⟩ := BZ.seven) | skip))
              all_goals (
                go_wp2_with fail
                go_meet
                case rel => exact ⟨rfl, (by repeat (first | (with_reducible exact hBr) | (with_reducible refine below_alloc ?_ _) | (with_reducible refine below_setb ?_ (by omega) _) | (with_reducible refine Below.drew ?_)))⟩)
            case rest =>
              obtain ⟨rfl, hbe⟩ := hcut
              clear hBr HS hBl hvr
              have G0 := below_after hBw hbe
              have BV := BV.below hbe BV.lt
              clear p0 p1 p2 p3 p4 p5 p6 pf pl
              obtain ⟨p0, p1, p2, p3, p4, p5, p6, pf, pl⟩ := BV.seven
              have hc3 := cells3 hbe hbl c0 c1 c2
              obtain ⟨c0, c1, c2, hbl⟩ := hc3
              go_wp2
              go_roundw
              case rel => exact ⟨k + 1, by omega, by go_num, HN.out, BV, G0⟩
              case measure => simp [intOf]; omega
        obtain rfl : k = owes.length := by omega
        have H5 : Hid (hasAllB (vs vers) owes = true) := by have := HO.out; rwa [List.take_length] at this
        have HN := Lib.hid (serv_end' (x := ⟨site, true, slots, vers, waits, owes, knows, sa, sc, va, vc, wa, wc, oa, oc, ka, kc⟩) HD.out H1.out H2.out H2'.out H4.out H5.out)
        clear HO hk hlt
        obtain ⟨p0, p1, p2, p3, p4, p5, p6, pf, pl⟩ := BV.seven
        go_wp2
        go_ret
        exact ⟨by rw [HN.out]; rfl, hBw⟩
end Go.Proofs.Ythciikogogkfcaa
