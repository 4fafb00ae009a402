/- A server's validity: the program's function. -/
import Derived.Test.YthciikogogkfcaaServW
import Derived.Deep.CutRange
namespace Go.Proofs.Ythciikogogkfcaa
open Go.RowKit Go.Deep
set_option linter.unusedVariables false

theorem serv_no1 {x : Ms} (h : slotsB x.slots = false) : serverOkB x = false := by simp [serverOkB, h]
theorem serv_no2 {x : Ms} (h : versHereB x.slots (vs x.vers) = false) : serverOkB x = false := by simp [serverOkB, h]
theorem serv_no3 {x : Ms} (h : versHereB x.slots (vs x.waits) = false) : serverOkB x = false := by simp [serverOkB, h]
theorem serv_no4 {x : Ms} (h : waitsB x.site (vs x.vers) (vs x.waits) = false) : serverOkB x = false := by simp [serverOkB, h]
theorem serv_no5 {x : Ms} (h : hasAllB (vs x.vers) x.owes = false) : serverOkB x = false := by simp [serverOkB, h]
theorem serv_end {x : Ms} (h0 : headB x = true) (h1 : slotsB x.slots = true) (h2 : versHereB x.slots (vs x.vers) = true) (h3 : versHereB x.slots (vs x.waits) = true) (h4 : waitsB x.site (vs x.vers) (vs x.waits) = true) : serverOkB x = hasAllB (vs x.vers) x.owes := by
  simp [serverOkB, h0, h1, h2, h3, h4]
theorem slotB_1 {p : Int × Int} (h : inB p.1 0 9999 = false) : slotB p = false := by simp [slotB, h]
theorem slotB_2 {p : Int × Int} (h : inB p.2 0 2 = false) : slotB p = false := by simp [slotB, h]
theorem slotB_3 {p : Int × Int} (h : ¬ p.2 = 0) (h' : ¬ 1 ≤ p.1) : slotB p = false := by simp [slotB, h, h']
theorem slotB_4 {p : Int × Int} (h1 : inB p.1 0 9999 = true) (h2 : inB p.2 0 2 = true) (h : p.2 = 0 ∨ 1 ≤ p.1) : slotB p = true := by
  unfold slotB
  rw [h1, h2]
  rcases h with h | h
  · rw [decide_eq_true h]; rfl
  · rw [decide_eq_true h, Bool.or_true]; rfl

set_option maxRecDepth 100000 in
set_option maxHeartbeats 16000000 in
theorem ServerOk_impl (x : Ms) (w : World) (hin : ServIn w x) (hf : FewS x) :
    Calls Try.prog 30 #[.agg #[.int .i64 x.site, .bool x.up, .slice x.sa x.slots.length x.sc, .slice x.va x.vers.length x.vc, .slice x.wa x.waits.length x.wc, .slice x.oa x.owes.length x.oc, .slice x.ka x.knows.length x.kc]] w (Says (serverOkB x) w) := by
  obtain ⟨site, up, slots, vers, waits, owes, knows, sa, sc, va, vc, wa, wc, oa, oc, ka, kc⟩ := x
  rcases up with _ | _
  · skip
    have BV := Blk.new w #[.int .i64 site, .bool false, .slice sa slots.length sc, .slice va vers.length vc, .slice wa waits.length wc, .slice oa owes.length oc, .slice ka knows.length kc] 59
    have G0 := below_box w (.cells #[.int .i64 site, .bool false, .slice sa slots.length sc, .slice va vers.length vc, .slice wa waits.length wc, .slice oa owes.length oc, .slice ka knows.length kc] 59)
    have hl1 : slots.length ≤ 1048577 := hf.sl
    have hl2 : vers.length ≤ 1048577 := hf.vr.1
    have hl3 : waits.length ≤ 1048577 := hf.wt.1
    obtain ⟨p0, p1, p2, p3, p4, p5, p6, pf, pl⟩ := BV.seven
    go_enter Try.func30, Try.ntmps30
    go_wp2_with fail
    refine (isSite_impl _ _).mono ?_
    rintro e w' ⟨rfl, rfl⟩
    rcases h0 : inB site 0 3 with _ | _
    · skip
      have HB : Hid (serverOkB ⟨site, false, slots, vers, waits, owes, knows, sa, sc, va, vc, wa, wc, oa, oc, ka, kc⟩ = false) := by show _ = _; simp [serverOkB, headB, h0]
      go_wp2
      go_ret
      exact ⟨by rw [HB.out]; rfl, G0⟩
    by_cases h1 : slots.length = 3
    rotate_left
    · have h1' : ((slots.length : Int) != 3) = true := by simp; omega
      have HB : Hid (serverOkB ⟨site, false, slots, vers, waits, owes, knows, sa, sc, va, vc, wa, wc, oa, oc, ka, kc⟩ = false) := by show _ = _; simp [serverOkB, headB, h1]
      clear h1
      go_wp2
      go_ret
      exact ⟨by rw [HB.out]; rfl, G0⟩
    have h1' : ((slots.length : Int) != 3) = false := by simp; omega
    have H3 := Lib.hid h1
    clear h1
    go_wp2_with fail
    refine (ChainOk_impl vers va vc _ (hin.vr.below G0) hf.vr).mono ?_
    rintro e w2 ⟨rfl, hb2⟩
    have BV := BV.below hb2 BV.lt
    have G0 := below_after G0 hb2
    clear p0 p1 p2 p3 p4 p5 p6 pf pl
    obtain ⟨p0, p1, p2, p3, p4, p5, p6, pf, pl⟩ := BV.seven
    rcases h2 : chainOkB (vs vers) with _ | _
    · skip
      have HB : Hid (serverOkB ⟨site, false, slots, vers, waits, owes, knows, sa, sc, va, vc, wa, wc, oa, oc, ka, kc⟩ = false) := by show _ = _; simp [serverOkB, headB, h0, H3.out, h2]
      go_wp2
      go_ret
      exact ⟨by rw [HB.out]; rfl, G0⟩
    go_wp2_with fail
    refine (ChainOk_impl waits wa wc _ (hin.wt.below G0) hf.wt).mono ?_
    rintro e w3 ⟨rfl, hb3⟩
    have BV := BV.below hb3 BV.lt
    have G0 := below_after G0 hb3
    clear p0 p1 p2 p3 p4 p5 p6 pf pl
    obtain ⟨p0, p1, p2, p3, p4, p5, p6, pf, pl⟩ := BV.seven
    rcases h3 : chainOkB (vs waits) with _ | _
    · skip
      have HB : Hid (serverOkB ⟨site, false, slots, vers, waits, owes, knows, sa, sc, va, vc, wa, wc, oa, oc, ka, kc⟩ = false) := by show _ = _; simp [serverOkB, headB, h0, H3.out, h2, h3]
      go_wp2
      go_ret
      exact ⟨by rw [HB.out]; rfl, G0⟩
    go_wp2_with fail
    refine (debts_impl owes oa oc _ (hin.ow.below G0) hf.ow).mono ?_
    rintro e w4 ⟨rfl, hb4⟩
    have BV := BV.below hb4 BV.lt
    have G0 := below_after G0 hb4
    clear p0 p1 p2 p3 p4 p5 p6 pf pl
    obtain ⟨p0, p1, p2, p3, p4, p5, p6, pf, pl⟩ := BV.seven
    rcases h4 : debtsB owes with _ | _
    · skip
      have HB : Hid (serverOkB ⟨site, false, slots, vers, waits, owes, knows, sa, sc, va, vc, wa, wc, oa, oc, ka, kc⟩ = false) := by show _ = _; simp [serverOkB, headB, h0, H3.out, h2, h3, h4]
      go_wp2
      go_ret
      exact ⟨by rw [HB.out]; rfl, G0⟩
    go_wp2_with fail
    refine (debts_impl knows ka kc _ (hin.kn.below G0) hf.kn).mono ?_
    rintro e w5 ⟨rfl, hb5⟩
    have BV := BV.below hb5 BV.lt
    have G0 := below_after G0 hb5
    clear p0 p1 p2 p3 p4 p5 p6 pf pl
    obtain ⟨p0, p1, p2, p3, p4, p5, p6, pf, pl⟩ := BV.seven
    rcases h5 : debtsB knows with _ | _
    · skip
      have HB : Hid (serverOkB ⟨site, false, slots, vers, waits, owes, knows, sa, sc, va, vc, wa, wc, oa, oc, ka, kc⟩ = false) := by show _ = _; simp [serverOkB, headB, h0, H3.out, h2, h3, h4, h5]
      go_wp2
      go_ret
      exact ⟨by rw [HB.out]; rfl, G0⟩
    have HC2 := Lib.hid h2
    have HC3 := Lib.hid h3
    clear h2 h3
    by_cases h7 : knows.length = 0
    rotate_left
    · have HB : Hid (serverOkB ⟨site, false, slots, vers, waits, owes, knows, sa, sc, va, vc, wa, wc, oa, oc, ka, kc⟩ = false) := by show _ = _; simp [serverOkB, headB, h7]
      have h7' : (0 : Int) < (knows.length : Int) := by omega
      clear h7
      go_wp2
      go_ret
      exact ⟨by rw [HB.out]; rfl, G0⟩
    have HD : Hid (headB ⟨site, false, slots, vers, waits, owes, knows, sa, sc, va, vc, wa, wc, oa, oc, ka, kc⟩ = true) := by show _ = _; simp [headB, h0, H3.out, HC2.out, HC3.out, h4, h5, h7]
    have h7' : decide ((0 : Int) < (knows.length : Int)) = false := decide_eq_false (by omega)
    have h7n : decide (0 < knows.length) = false := decide_eq_false (by omega)
    clear h7
    go_wp2
    go_loopw [57] (fun i wr => ∃ k : Nat, k ≤ slots.length ∧ i = .int .i64 k ∧ slotsB (slots.take k) = true ∧ Blk wr w.heap.size #[.int .i64 site, .bool false, .slice sa slots.length sc, .slice va vers.length vc, .slice wa waits.length wc, .slice oa owes.length oc, .slice ka knows.length kc] 59 ∧ Below w.heap.size w wr) (fun i _ => slots.length - (intOf i).toNat)
    case atStart => exact ⟨0, Nat.zero_le _, rfl, rfl, BV, G0⟩
    case round =>
      obtain ⟨k, hk, rfl, hok, BV, hBw⟩ := hrel
      have HO := Lib.hid hok
      clear hok
      by_cases hlt : k < slots.length
      · have hi0 : (0 : Int) ≤ (k : Int) := by omega
        have hi1 : (k : Int) < (slots.length : Int) := by omega
        obtain ⟨b, off, rfl, hbl, c0, c1⟩ := slot_cell (hin.sl.below hBw) k hlt
        have HT := Lib.hid (all_take (p := slotB) slots k hlt)
        have BE := Blk.new wr #[.int .i64 slots[k].1, .int .i64 slots[k].2] 101
        have BV := BV.alloc (.cells #[.int .i64 slots[k].1, .int .i64 slots[k].2] 101)
        have G0 := below_alloc hBw (.cells #[.int .i64 slots[k].1, .int .i64 slots[k].2] 101)
        obtain ⟨e0, e1, ef, el⟩ := BE.two
        rcases hA : inB slots[k].1 0 9999 with _ | _
        · have HN : Hid (serverOkB ⟨site, false, slots, vers, waits, owes, knows, (some ⟨b, off, none⟩), sc, va, vc, wa, wc, oa, oc, ka, kc⟩ = false) := serv_no1 (all_bad k hlt (slotB_1 (p := slots[k]) hA))
          go_wp2_with (first | (go_at_call 49; refine (in_impl _ _ _ _).mono ?_; rintro e w' ⟨rfl, rfl⟩))
          go_ret
          exact ⟨by rw [HN.out]; rfl, G0⟩
        rcases hB : inB slots[k].2 0 2 with _ | _
        · have HN : Hid (serverOkB ⟨site, false, slots, vers, waits, owes, knows, (some ⟨b, off, none⟩), sc, va, vc, wa, wc, oa, oc, ka, kc⟩ = false) := serv_no1 (all_bad k hlt (slotB_2 (p := slots[k]) hB))
          go_wp2_with (first | (go_at_call 49; refine (in_impl _ _ _ _).mono ?_; rintro e w' ⟨rfl, rfl⟩))
          go_ret
          exact ⟨by rw [HN.out]; rfl, G0⟩
        by_cases hs : slots[k].2 = 0
        · have HN : Hid (slotsB (slots.take (k + 1)) = true) := by show _ = _; unfold slotsB; rw [HT.out, show (slots.take k).all slotB = true from HO.out, slotB_4 hA hB (.inl hs)]; rfl
          have hs' : (slots[k].2 != 0) = false := by simp [hs]
          clear hs
          go_wp2_with (first | (go_at_call 49; refine (in_impl _ _ _ _).mono ?_; rintro e w' ⟨rfl, rfl⟩))
          go_roundw
          case rel => exact ⟨k + 1, by omega, by go_num, HN.out, BV, G0⟩
          case measure => simp [intOf]; omega
        · have hs' : (slots[k].2 != 0) = true := by simpa using hs
          by_cases he : slots[k].1 = 0
          · have HN : Hid (serverOkB ⟨site, false, slots, vers, waits, owes, knows, (some ⟨b, off, none⟩), sc, va, vc, wa, wc, oa, oc, ka, kc⟩ = false) := serv_no1 (all_bad k hlt (slotB_3 (p := slots[k]) hs (by omega)))
            have he' : (slots[k].1 == 0) = true := by simpa using he
            clear hs he
            go_wp2_with (first | (go_at_call 49; refine (in_impl _ _ _ _).mono ?_; rintro e w' ⟨rfl, rfl⟩))
            go_ret
            exact ⟨by rw [HN.out]; rfl, G0⟩
          · have HN : Hid (slotsB (slots.take (k + 1)) = true) := by show _ = _; unfold slotsB; rw [HT.out, show (slots.take k).all slotB = true from HO.out, slotB_4 hA hB (.inr (by have := inB_iff.1 hA; omega))]; rfl
            have he' : (slots[k].1 == 0) = false := by simpa using he
            clear hs he
            go_wp2_with (first | (go_at_call 49; refine (in_impl _ _ _ _).mono ?_; rintro e w' ⟨rfl, rfl⟩))
            go_roundw
            case rel => exact ⟨k + 1, by omega, by go_num, HN.out, BV, G0⟩
            case measure => simp [intOf]; omega
      obtain rfl : k = slots.length := by omega
      have H1 : Hid (slotsB slots = true) := all_end HO.out
      clear HO hk hlt
      obtain ⟨p0, p1, p2, p3, p4, p5, p6, pf, pl⟩ := BV.seven
      have GA := hBw
      clear hBw
      go_wp2
      go_loopw [85] (fun i wr => ∃ k : Nat, k ≤ vers.length ∧ i = .int .i64 k ∧ versHereB slots ((vs vers).take k) = true ∧ Blk wr w.heap.size #[.int .i64 site, .bool false, .slice sa slots.length sc, .slice va vers.length vc, .slice wa waits.length wc, .slice oa owes.length oc, .slice ka knows.length kc] 59 ∧ Below w.heap.size w wr) (fun i _ => vers.length - (intOf i).toNat)
      case atStart => exact ⟨0, Nat.zero_le _, rfl, by simp [versHereB], BV, GA⟩
      case round =>
        obtain ⟨k, hk, rfl, hok, BV, hBw⟩ := hrel
        have HO := Lib.hid hok
        clear hok
        by_cases hlt : k < vers.length
        · have hi0 : (0 : Int) ≤ (k : Int) := by omega
          have hi1 : (k : Int) < (vers.length : Int) := by omega
          have hkey := chain_key HC2.out k hlt
          have hv := hin.vr.below hBw
          obtain ⟨b, off, rfl, hbl, c0, c1, c2, c3, c4, c5, c6⟩ := hv.at_ k hlt
          have HT := Lib.hid (all_vs (p := fun v => hereB slots v.key) vers k hlt)
          have BE := Blk.new wr #[.int .i64 vers[k].v.key, .int .i64 vers[k].v.time, .int .i64 vers[k].v.site, .int .i64 vers[k].v.val, .int .i64 vers[k].v.client, .int .i64 vers[k].v.call, .slice vers[k].a vers[k].v.deps.length vers[k].c] 27
          have BV := BV.alloc (.cells #[.int .i64 vers[k].v.key, .int .i64 vers[k].v.time, .int .i64 vers[k].v.site, .int .i64 vers[k].v.val, .int .i64 vers[k].v.client, .int .i64 vers[k].v.call, .slice vers[k].a vers[k].v.deps.length vers[k].c] 27)
          have G0 := below_alloc hBw (.cells #[.int .i64 vers[k].v.key, .int .i64 vers[k].v.time, .int .i64 vers[k].v.site, .int .i64 vers[k].v.val, .int .i64 vers[k].v.client, .int .i64 vers[k].v.call, .slice vers[k].a vers[k].v.deps.length vers[k].c] 27)
          obtain ⟨e0, e1, e2, e3, e4, e5, e6, ef, el⟩ := BE.seven
          obtain ⟨q0, q1, q2, q3, q4, q5, q6, qf, ql⟩ := BV.seven
          have hcall := stand_impl ⟨site, false, slots, vers, waits, owes, knows, sa, sc, (some ⟨b, off, none⟩), vc, wa, wc, oa, oc, ka, kc⟩ sa vers[k].v.key _ (hin.sl.below G0) H3.out hkey
          have HCA := Lib.hid hcall
          clear hcall hv
          rcases hh : hereB slots vers[k].v.key with _ | _
          · have HN : Hid (serverOkB ⟨site, false, slots, vers, waits, owes, knows, sa, sc, (some ⟨b, off, none⟩), vc, wa, wc, oa, oc, ka, kc⟩ = false) := serv_no2 (all_vs_bad (p := fun v => hereB slots v.key) k hlt hh)
            have hst : (standI slots vers[k].v.key == 0) = true := here_stand hh
            clear hh
            go_wp2_with fail
            refine HCA.out.mono ?_
            rintro e w1 ⟨rfl, hb1⟩
            have G0 := below_after G0 hb1
            go_wp2
            go_ret
            exact ⟨by rw [HN.out]; rfl, G0⟩
          · have HN : Hid (versHereB slots ((vs vers).take (k + 1)) = true) := by show _ = _; unfold versHereB; rw [HT.out, show ((vs vers).take k).all _ = true from HO.out, hh]; rfl
            have hst : (standI slots vers[k].v.key == 0) = false := here_stand hh
            clear hh
            go_wp2_with fail
            refine HCA.out.mono ?_
            rintro e w1 ⟨rfl, hb1⟩
            have G0 := below_after G0 hb1
            have BV := BV.below hb1 BV.lt
            go_wp2
            go_roundw
            case rel => exact ⟨k + 1, by omega, by go_num, HN.out, BV, G0⟩
            case measure => simp [intOf]; omega
        obtain rfl : k = vers.length := by omega
        have H2 : Hid (versHereB slots (vs vers) = true) := all_vs_end HO.out
        clear HO hk hlt
        clear p0 p1 p2 p3 p4 p5 p6 pf pl
        obtain ⟨p0, p1, p2, p3, p4, p5, p6, pf, pl⟩ := BV.seven
        have GB := hBw
        clear hBw
        go_wp2
        go_loopw [98] (fun i wr => ∃ k : Nat, k ≤ waits.length ∧ i = .int .i64 k ∧ (versHereB slots ((vs waits).take k) = true ∧ waitsB site (vs vers) ((vs waits).take k) = true) ∧ Blk wr w.heap.size #[.int .i64 site, .bool false, .slice sa slots.length sc, .slice va vers.length vc, .slice wa waits.length wc, .slice oa owes.length oc, .slice ka knows.length kc] 59 ∧ Below w.heap.size w wr) (fun i _ => waits.length - (intOf i).toNat)
        case atStart => exact ⟨0, Nat.zero_le _, rfl, by simp [versHereB, waitsB], BV, GB⟩
        case round =>
          obtain ⟨k, hk, rfl, hok, BV, hBw⟩ := hrel
          have HO := Lib.hid hok
          clear hok
          by_cases hlt : k < waits.length
          · have hi0 : (0 : Int) ≤ (k : Int) := by omega
            have hi1 : (k : Int) < (waits.length : Int) := by omega
            have hkey := chain_key HC3.out k hlt
            have hv := hin.wt.below hBw
            obtain ⟨b, off, rfl, hbl, c0, c1, c2, c3, c4, c5, c6⟩ := hv.at_ k hlt
            have HT := Lib.hid (all_vs (p := fun v => hereB slots v.key) waits k hlt)
            have HU := Lib.hid (all_vs (p := waitB site (vs vers)) waits k hlt)
            have hbl9 := BV.lt
            have hbl8 : w.heap.size < wr.heap.size + 1 := by omega
            have BE := Blk.new wr #[.int .i64 waits[k].v.key, .int .i64 waits[k].v.time, .int .i64 waits[k].v.site, .int .i64 waits[k].v.val, .int .i64 waits[k].v.client, .int .i64 waits[k].v.call, .slice waits[k].a waits[k].v.deps.length waits[k].c] 27
            have BV := BV.alloc (.cells #[.int .i64 waits[k].v.key, .int .i64 waits[k].v.time, .int .i64 waits[k].v.site, .int .i64 waits[k].v.val, .int .i64 waits[k].v.client, .int .i64 waits[k].v.call, .slice waits[k].a waits[k].v.deps.length waits[k].c] 27)
            have G0 := below_alloc hBw (.cells #[.int .i64 waits[k].v.key, .int .i64 waits[k].v.time, .int .i64 waits[k].v.site, .int .i64 waits[k].v.val, .int .i64 waits[k].v.client, .int .i64 waits[k].v.call, .slice waits[k].a waits[k].v.deps.length waits[k].c] 27)
            clear p0 p1 p2 p3 p4 p5 p6 pf pl
            obtain ⟨e0, e1, e2, e3, e4, e5, e6, ef, el⟩ := BE.seven
            obtain ⟨q0, q1, q2, q3, q4, q5, q6, qf, ql⟩ := BV.seven
            have hsl := hin.sl.below G0
            have hvr := hin.vr.below G0
            clear hv
            rcases hh : hereB slots waits[k].v.key with _ | _
            · have HN : Hid (serverOkB ⟨site, false, slots, vers, waits, owes, knows, sa, sc, va, vc, (some ⟨b, off, none⟩), wc, oa, oc, ka, kc⟩ = false) := serv_no3 (all_vs_bad (p := fun v => hereB slots v.key) k hlt hh)
              have hst : (standI slots waits[k].v.key == 0) = true := here_stand hh
              clear hh
              go_wp2
              refine region_over (by kernel_rfl) (by kernel_rfl) ?_
              repeat (go_big_quiet_step (first | (go_at_call 79; exact quiet_over (stand_impl ⟨site, false, slots, vers, waits, owes, knows, sa, sc, va, vc, (some ⟨b, off, none⟩), wc, oa, oc, ka, kc⟩ sa waits[k].v.key _ (hsl.below (over_below _ _)) H3.out hkey)) | (go_at_call 80; exact quiet_over (bool_is hsg (stranger_impl ⟨site, false, slots, vers, waits, owes, knows, sa, sc, va, vc, (some ⟨b, off, none⟩), wc, oa, oc, ka, kc⟩ waits[k].v _ _ _))) | (go_at_call 81; exact quiet_over (dep_impl _ _ _ _ _ _ _ _ _ _)) | (go_at_call 60; exact quiet_over (place_impl vers va vc (waits[k].v.key, waits[k].v.time, waits[k].v.site) _ (hvr.below (over_below _ _)) hf.vr.1))))
              refine wpQuiet_nil ?_
              intro w9 hb9
              have G1 := below_after G0 hb9
              have BV := BV.below hb9 BV.lt
              go_wp2
              go_ret
              exact ⟨by rw [HN.out]; rfl, G1⟩
            have hst : (standI slots waits[k].v.key == 0) = false := here_stand hh
            rcases hsg : (!decide (siteSideI waits[k].v.site = siteSideI site)) with _ | _
            · have HN : Hid (serverOkB ⟨site, false, slots, vers, waits, owes, knows, sa, sc, va, vc, (some ⟨b, off, none⟩), wc, oa, oc, ka, kc⟩ = false) := serv_no4 (all_vs_bad (p := waitB site (vs vers)) k hlt (by unfold waitB; rw [hsg]; rfl))
              clear hh
              go_wp2
              refine region_over (by kernel_rfl) (by kernel_rfl) ?_
              repeat (go_big_quiet_step (first | (go_at_call 79; exact quiet_over (stand_impl ⟨site, false, slots, vers, waits, owes, knows, sa, sc, va, vc, (some ⟨b, off, none⟩), wc, oa, oc, ka, kc⟩ sa waits[k].v.key _ (hsl.below (over_below _ _)) H3.out hkey)) | (go_at_call 80; exact quiet_over (bool_is hsg (stranger_impl ⟨site, false, slots, vers, waits, owes, knows, sa, sc, va, vc, (some ⟨b, off, none⟩), wc, oa, oc, ka, kc⟩ waits[k].v _ _ _))) | (go_at_call 81; exact quiet_over (dep_impl _ _ _ _ _ _ _ _ _ _)) | (go_at_call 60; exact quiet_over (place_impl vers va vc (waits[k].v.key, waits[k].v.time, waits[k].v.site) _ (hvr.below (over_below _ _)) hf.vr.1))))
              refine wpQuiet_nil ?_
              intro w9 hb9
              have G1 := below_after G0 hb9
              have BV := BV.below hb9 BV.lt
              go_wp2
              go_ret
              exact ⟨by rw [HN.out]; rfl, G1⟩
            rcases hp : hasV (vs vers) (waits[k].v.key, waits[k].v.time, waits[k].v.site) with _ | _
            · have HN : Hid (versHereB slots ((vs waits).take (k + 1)) = true ∧ waitsB site (vs vers) ((vs waits).take (k + 1)) = true) := by
                refine ⟨?_, ?_⟩
                · unfold versHereB; rw [HT.out, show ((vs waits).take k).all _ = true from HO.out.1, hh]; rfl
                · unfold waitsB; rw [HU.out, show ((vs waits).take k).all _ = true from HO.out.2]; unfold waitB; rw [hsg, hp]; rfl
              have hpl : decide (0 ≤ placeI (vs vers) (waits[k].v.key, waits[k].v.time, waits[k].v.site)) = false := by rw [place_has, hp]
              clear hh hp
              go_wp2
              refine region_over (by kernel_rfl) (by kernel_rfl) ?_
              repeat (go_big_quiet_step (first | (go_at_call 79; exact quiet_over (stand_impl ⟨site, false, slots, vers, waits, owes, knows, sa, sc, va, vc, (some ⟨b, off, none⟩), wc, oa, oc, ka, kc⟩ sa waits[k].v.key _ (hsl.below (over_below _ _)) H3.out hkey)) | (go_at_call 80; exact quiet_over (bool_is hsg (stranger_impl ⟨site, false, slots, vers, waits, owes, knows, sa, sc, va, vc, (some ⟨b, off, none⟩), wc, oa, oc, ka, kc⟩ waits[k].v _ _ _))) | (go_at_call 81; exact quiet_over (dep_impl _ _ _ _ _ _ _ _ _ _)) | (go_at_call 60; exact quiet_over (place_impl vers va vc (waits[k].v.key, waits[k].v.time, waits[k].v.site) _ (hvr.below (over_below _ _)) hf.vr.1))))
              refine wpQuiet_nil ?_
              intro w9 hb9
              have G1 := below_after G0 hb9
              have BV := BV.below hb9 BV.lt
              go_wp2
              go_roundw
              case rel => exact ⟨k + 1, by omega, by go_num, HN.out, BV, G1⟩
              case measure => simp [intOf]; omega
            · have HN : Hid (serverOkB ⟨site, false, slots, vers, waits, owes, knows, sa, sc, va, vc, (some ⟨b, off, none⟩), wc, oa, oc, ka, kc⟩ = false) := serv_no4 (all_vs_bad (p := waitB site (vs vers)) k hlt (by unfold waitB; rw [hp, Bool.not_true, Bool.and_false]))
              have hpl : decide (0 ≤ placeI (vs vers) (waits[k].v.key, waits[k].v.time, waits[k].v.site)) = true := by rw [place_has, hp]
              clear hh hp
              go_wp2
              refine region_over (by kernel_rfl) (by kernel_rfl) ?_
              repeat (go_big_quiet_step (first | (go_at_call 79; exact quiet_over (stand_impl ⟨site, false, slots, vers, waits, owes, knows, sa, sc, va, vc, (some ⟨b, off, none⟩), wc, oa, oc, ka, kc⟩ sa waits[k].v.key _ (hsl.below (over_below _ _)) H3.out hkey)) | (go_at_call 80; exact quiet_over (bool_is hsg (stranger_impl ⟨site, false, slots, vers, waits, owes, knows, sa, sc, va, vc, (some ⟨b, off, none⟩), wc, oa, oc, ka, kc⟩ waits[k].v _ _ _))) | (go_at_call 81; exact quiet_over (dep_impl _ _ _ _ _ _ _ _ _ _)) | (go_at_call 60; exact quiet_over (place_impl vers va vc (waits[k].v.key, waits[k].v.time, waits[k].v.site) _ (hvr.below (over_below _ _)) hf.vr.1))))
              refine wpQuiet_nil ?_
              intro w9 hb9
              have G1 := below_after G0 hb9
              have BV := BV.below hb9 BV.lt
              go_wp2
              go_ret
              exact ⟨by rw [HN.out]; rfl, G1⟩
          obtain rfl : k = waits.length := by omega
          have HN := Lib.hid (serv_end (x := ⟨site, false, slots, vers, waits, owes, knows, sa, sc, va, vc, wa, wc, oa, oc, ka, kc⟩) HD.out H1.out H2.out (all_vs_end HO.out.1) (all_vs_end HO.out.2))
          clear HO hk hlt
          obtain ⟨q0, q1, q2, q3, q4, q5, q6, qf, ql⟩ := BV.seven
          go_wp2_with fail
          refine (hasAll_impl vers va vc owes oa oc _ (hin.vr.below hBw) hf.vr.1 (hin.ow.below hBw)).mono ?_
          rintro e w1 ⟨rfl, hb1⟩
          go_wp2
          go_ret
          exact ⟨by rw [HN.out]; rfl, below_after hBw hb1⟩
  · skip
    have BV := Blk.new w #[.int .i64 site, .bool true, .slice sa slots.length sc, .slice va vers.length vc, .slice wa waits.length wc, .slice oa owes.length oc, .slice ka knows.length kc] 59
    have G0 := below_box w (.cells #[.int .i64 site, .bool true, .slice sa slots.length sc, .slice va vers.length vc, .slice wa waits.length wc, .slice oa owes.length oc, .slice ka knows.length kc] 59)
    have hl1 : slots.length ≤ 1048577 := hf.sl
    have hl2 : vers.length ≤ 1048577 := hf.vr.1
    have hl3 : waits.length ≤ 1048577 := hf.wt.1
    obtain ⟨p0, p1, p2, p3, p4, p5, p6, pf, pl⟩ := BV.seven
    go_enter Try.func30, Try.ntmps30
    go_wp2_with fail
    refine (isSite_impl _ _).mono ?_
    rintro e w' ⟨rfl, rfl⟩
    rcases h0 : inB site 0 3 with _ | _
    · skip
      have HB : Hid (serverOkB ⟨site, true, slots, vers, waits, owes, knows, sa, sc, va, vc, wa, wc, oa, oc, ka, kc⟩ = false) := by show _ = _; simp [serverOkB, headB, h0]
      go_wp2
      go_ret
      exact ⟨by rw [HB.out]; rfl, G0⟩
    by_cases h1 : slots.length = 3
    rotate_left
    · have h1' : ((slots.length : Int) != 3) = true := by simp; omega
      have HB : Hid (serverOkB ⟨site, true, slots, vers, waits, owes, knows, sa, sc, va, vc, wa, wc, oa, oc, ka, kc⟩ = false) := by show _ = _; simp [serverOkB, headB, h1]
      clear h1
      go_wp2
      go_ret
      exact ⟨by rw [HB.out]; rfl, G0⟩
    have h1' : ((slots.length : Int) != 3) = false := by simp; omega
    have H3 := Lib.hid h1
    clear h1
    go_wp2_with fail
    refine (ChainOk_impl vers va vc _ (hin.vr.below G0) hf.vr).mono ?_
    rintro e w2 ⟨rfl, hb2⟩
    have BV := BV.below hb2 BV.lt
    have G0 := below_after G0 hb2
    clear p0 p1 p2 p3 p4 p5 p6 pf pl
    obtain ⟨p0, p1, p2, p3, p4, p5, p6, pf, pl⟩ := BV.seven
    rcases h2 : chainOkB (vs vers) with _ | _
    · skip
      have HB : Hid (serverOkB ⟨site, true, slots, vers, waits, owes, knows, sa, sc, va, vc, wa, wc, oa, oc, ka, kc⟩ = false) := by show _ = _; simp [serverOkB, headB, h0, H3.out, h2]
      go_wp2
      go_ret
      exact ⟨by rw [HB.out]; rfl, G0⟩
    go_wp2_with fail
    refine (ChainOk_impl waits wa wc _ (hin.wt.below G0) hf.wt).mono ?_
    rintro e w3 ⟨rfl, hb3⟩
    have BV := BV.below hb3 BV.lt
    have G0 := below_after G0 hb3
    clear p0 p1 p2 p3 p4 p5 p6 pf pl
    obtain ⟨p0, p1, p2, p3, p4, p5, p6, pf, pl⟩ := BV.seven
    rcases h3 : chainOkB (vs waits) with _ | _
    · skip
      have HB : Hid (serverOkB ⟨site, true, slots, vers, waits, owes, knows, sa, sc, va, vc, wa, wc, oa, oc, ka, kc⟩ = false) := by show _ = _; simp [serverOkB, headB, h0, H3.out, h2, h3]
      go_wp2
      go_ret
      exact ⟨by rw [HB.out]; rfl, G0⟩
    go_wp2_with fail
    refine (debts_impl owes oa oc _ (hin.ow.below G0) hf.ow).mono ?_
    rintro e w4 ⟨rfl, hb4⟩
    have BV := BV.below hb4 BV.lt
    have G0 := below_after G0 hb4
    clear p0 p1 p2 p3 p4 p5 p6 pf pl
    obtain ⟨p0, p1, p2, p3, p4, p5, p6, pf, pl⟩ := BV.seven
    rcases h4 : debtsB owes with _ | _
    · skip
      have HB : Hid (serverOkB ⟨site, true, slots, vers, waits, owes, knows, sa, sc, va, vc, wa, wc, oa, oc, ka, kc⟩ = false) := by show _ = _; simp [serverOkB, headB, h0, H3.out, h2, h3, h4]
      go_wp2
      go_ret
      exact ⟨by rw [HB.out]; rfl, G0⟩
    go_wp2_with fail
    refine (debts_impl knows ka kc _ (hin.kn.below G0) hf.kn).mono ?_
    rintro e w5 ⟨rfl, hb5⟩
    have BV := BV.below hb5 BV.lt
    have G0 := below_after G0 hb5
    clear p0 p1 p2 p3 p4 p5 p6 pf pl
    obtain ⟨p0, p1, p2, p3, p4, p5, p6, pf, pl⟩ := BV.seven
    rcases h5 : debtsB knows with _ | _
    · skip
      have HB : Hid (serverOkB ⟨site, true, slots, vers, waits, owes, knows, sa, sc, va, vc, wa, wc, oa, oc, ka, kc⟩ = false) := by show _ = _; simp [serverOkB, headB, h0, H3.out, h2, h3, h4, h5]
      go_wp2
      go_ret
      exact ⟨by rw [HB.out]; rfl, G0⟩
    have HC2 := Lib.hid h2
    have HC3 := Lib.hid h3
    clear h2 h3
    have HD : Hid (headB ⟨site, true, slots, vers, waits, owes, knows, sa, sc, va, vc, wa, wc, oa, oc, ka, kc⟩ = true) := by show _ = _; simp [headB, h0, H3.out, HC2.out, HC3.out, h4, h5]
    go_wp2
    go_loopw [57] (fun i wr => ∃ k : Nat, k ≤ slots.length ∧ i = .int .i64 k ∧ slotsB (slots.take k) = true ∧ Blk wr w.heap.size #[.int .i64 site, .bool true, .slice sa slots.length sc, .slice va vers.length vc, .slice wa waits.length wc, .slice oa owes.length oc, .slice ka knows.length kc] 59 ∧ Below w.heap.size w wr) (fun i _ => slots.length - (intOf i).toNat)
    case atStart => exact ⟨0, Nat.zero_le _, rfl, rfl, BV, G0⟩
    case round =>
      obtain ⟨k, hk, rfl, hok, BV, hBw⟩ := hrel
      have HO := Lib.hid hok
      clear hok
      by_cases hlt : k < slots.length
      · have hi0 : (0 : Int) ≤ (k : Int) := by omega
        have hi1 : (k : Int) < (slots.length : Int) := by omega
        obtain ⟨b, off, rfl, hbl, c0, c1⟩ := slot_cell (hin.sl.below hBw) k hlt
        have HT := Lib.hid (all_take (p := slotB) slots k hlt)
        have BE := Blk.new wr #[.int .i64 slots[k].1, .int .i64 slots[k].2] 101
        have BV := BV.alloc (.cells #[.int .i64 slots[k].1, .int .i64 slots[k].2] 101)
        have G0 := below_alloc hBw (.cells #[.int .i64 slots[k].1, .int .i64 slots[k].2] 101)
        obtain ⟨e0, e1, ef, el⟩ := BE.two
        rcases hA : inB slots[k].1 0 9999 with _ | _
        · have HN : Hid (serverOkB ⟨site, true, slots, vers, waits, owes, knows, (some ⟨b, off, none⟩), sc, va, vc, wa, wc, oa, oc, ka, kc⟩ = false) := serv_no1 (all_bad k hlt (slotB_1 (p := slots[k]) hA))
          go_wp2_with (first | (go_at_call 49; refine (in_impl _ _ _ _).mono ?_; rintro e w' ⟨rfl, rfl⟩))
          go_ret
          exact ⟨by rw [HN.out]; rfl, G0⟩
        rcases hB : inB slots[k].2 0 2 with _ | _
        · have HN : Hid (serverOkB ⟨site, true, slots, vers, waits, owes, knows, (some ⟨b, off, none⟩), sc, va, vc, wa, wc, oa, oc, ka, kc⟩ = false) := serv_no1 (all_bad k hlt (slotB_2 (p := slots[k]) hB))
          go_wp2_with (first | (go_at_call 49; refine (in_impl _ _ _ _).mono ?_; rintro e w' ⟨rfl, rfl⟩))
          go_ret
          exact ⟨by rw [HN.out]; rfl, G0⟩
        by_cases hs : slots[k].2 = 0
        · have HN : Hid (slotsB (slots.take (k + 1)) = true) := by show _ = _; unfold slotsB; rw [HT.out, show (slots.take k).all slotB = true from HO.out, slotB_4 hA hB (.inl hs)]; rfl
          have hs' : (slots[k].2 != 0) = false := by simp [hs]
          clear hs
          go_wp2_with (first | (go_at_call 49; refine (in_impl _ _ _ _).mono ?_; rintro e w' ⟨rfl, rfl⟩))
          go_roundw
          case rel => exact ⟨k + 1, by omega, by go_num, HN.out, BV, G0⟩
          case measure => simp [intOf]; omega
        · have hs' : (slots[k].2 != 0) = true := by simpa using hs
          by_cases he : slots[k].1 = 0
          · have HN : Hid (serverOkB ⟨site, true, slots, vers, waits, owes, knows, (some ⟨b, off, none⟩), sc, va, vc, wa, wc, oa, oc, ka, kc⟩ = false) := serv_no1 (all_bad k hlt (slotB_3 (p := slots[k]) hs (by omega)))
            have he' : (slots[k].1 == 0) = true := by simpa using he
            clear hs he
            go_wp2_with (first | (go_at_call 49; refine (in_impl _ _ _ _).mono ?_; rintro e w' ⟨rfl, rfl⟩))
            go_ret
            exact ⟨by rw [HN.out]; rfl, G0⟩
          · have HN : Hid (slotsB (slots.take (k + 1)) = true) := by show _ = _; unfold slotsB; rw [HT.out, show (slots.take k).all slotB = true from HO.out, slotB_4 hA hB (.inr (by have := inB_iff.1 hA; omega))]; rfl
            have he' : (slots[k].1 == 0) = false := by simpa using he
            clear hs he
            go_wp2_with (first | (go_at_call 49; refine (in_impl _ _ _ _).mono ?_; rintro e w' ⟨rfl, rfl⟩))
            go_roundw
            case rel => exact ⟨k + 1, by omega, by go_num, HN.out, BV, G0⟩
            case measure => simp [intOf]; omega
      obtain rfl : k = slots.length := by omega
      have H1 : Hid (slotsB slots = true) := all_end HO.out
      clear HO hk hlt
      obtain ⟨p0, p1, p2, p3, p4, p5, p6, pf, pl⟩ := BV.seven
      have GA := hBw
      clear hBw
      go_wp2
      go_loopw [85] (fun i wr => ∃ k : Nat, k ≤ vers.length ∧ i = .int .i64 k ∧ versHereB slots ((vs vers).take k) = true ∧ Blk wr w.heap.size #[.int .i64 site, .bool true, .slice sa slots.length sc, .slice va vers.length vc, .slice wa waits.length wc, .slice oa owes.length oc, .slice ka knows.length kc] 59 ∧ Below w.heap.size w wr) (fun i _ => vers.length - (intOf i).toNat)
      case atStart => exact ⟨0, Nat.zero_le _, rfl, by simp [versHereB], BV, GA⟩
      case round =>
        obtain ⟨k, hk, rfl, hok, BV, hBw⟩ := hrel
        have HO := Lib.hid hok
        clear hok
        by_cases hlt : k < vers.length
        · have hi0 : (0 : Int) ≤ (k : Int) := by omega
          have hi1 : (k : Int) < (vers.length : Int) := by omega
          have hkey := chain_key HC2.out k hlt
          have hv := hin.vr.below hBw
          obtain ⟨b, off, rfl, hbl, c0, c1, c2, c3, c4, c5, c6⟩ := hv.at_ k hlt
          have HT := Lib.hid (all_vs (p := fun v => hereB slots v.key) vers k hlt)
          have BE := Blk.new wr #[.int .i64 vers[k].v.key, .int .i64 vers[k].v.time, .int .i64 vers[k].v.site, .int .i64 vers[k].v.val, .int .i64 vers[k].v.client, .int .i64 vers[k].v.call, .slice vers[k].a vers[k].v.deps.length vers[k].c] 27
          have BV := BV.alloc (.cells #[.int .i64 vers[k].v.key, .int .i64 vers[k].v.time, .int .i64 vers[k].v.site, .int .i64 vers[k].v.val, .int .i64 vers[k].v.client, .int .i64 vers[k].v.call, .slice vers[k].a vers[k].v.deps.length vers[k].c] 27)
          have G0 := below_alloc hBw (.cells #[.int .i64 vers[k].v.key, .int .i64 vers[k].v.time, .int .i64 vers[k].v.site, .int .i64 vers[k].v.val, .int .i64 vers[k].v.client, .int .i64 vers[k].v.call, .slice vers[k].a vers[k].v.deps.length vers[k].c] 27)
          obtain ⟨e0, e1, e2, e3, e4, e5, e6, ef, el⟩ := BE.seven
          obtain ⟨q0, q1, q2, q3, q4, q5, q6, qf, ql⟩ := BV.seven
          have hcall := stand_impl ⟨site, true, slots, vers, waits, owes, knows, sa, sc, (some ⟨b, off, none⟩), vc, wa, wc, oa, oc, ka, kc⟩ sa vers[k].v.key _ (hin.sl.below G0) H3.out hkey
          have HCA := Lib.hid hcall
          clear hcall hv
          rcases hh : hereB slots vers[k].v.key with _ | _
          · have HN : Hid (serverOkB ⟨site, true, slots, vers, waits, owes, knows, sa, sc, (some ⟨b, off, none⟩), vc, wa, wc, oa, oc, ka, kc⟩ = false) := serv_no2 (all_vs_bad (p := fun v => hereB slots v.key) k hlt hh)
            have hst : (standI slots vers[k].v.key == 0) = true := here_stand hh
            clear hh
            go_wp2_with fail
            refine HCA.out.mono ?_
            rintro e w1 ⟨rfl, hb1⟩
            have G0 := below_after G0 hb1
            go_wp2
            go_ret
            exact ⟨by rw [HN.out]; rfl, G0⟩
          · have HN : Hid (versHereB slots ((vs vers).take (k + 1)) = true) := by show _ = _; unfold versHereB; rw [HT.out, show ((vs vers).take k).all _ = true from HO.out, hh]; rfl
            have hst : (standI slots vers[k].v.key == 0) = false := here_stand hh
            clear hh
            go_wp2_with fail
            refine HCA.out.mono ?_
            rintro e w1 ⟨rfl, hb1⟩
            have G0 := below_after G0 hb1
            have BV := BV.below hb1 BV.lt
            go_wp2
            go_roundw
            case rel => exact ⟨k + 1, by omega, by go_num, HN.out, BV, G0⟩
            case measure => simp [intOf]; omega
        obtain rfl : k = vers.length := by omega
        have H2 : Hid (versHereB slots (vs vers) = true) := all_vs_end HO.out
        clear HO hk hlt
        clear p0 p1 p2 p3 p4 p5 p6 pf pl
        obtain ⟨p0, p1, p2, p3, p4, p5, p6, pf, pl⟩ := BV.seven
        have GB := hBw
        clear hBw
        go_wp2
        go_loopw [98] (fun i wr => ∃ k : Nat, k ≤ waits.length ∧ i = .int .i64 k ∧ (versHereB slots ((vs waits).take k) = true ∧ waitsB site (vs vers) ((vs waits).take k) = true) ∧ Blk wr w.heap.size #[.int .i64 site, .bool true, .slice sa slots.length sc, .slice va vers.length vc, .slice wa waits.length wc, .slice oa owes.length oc, .slice ka knows.length kc] 59 ∧ Below w.heap.size w wr) (fun i _ => waits.length - (intOf i).toNat)
        case atStart => exact ⟨0, Nat.zero_le _, rfl, by simp [versHereB, waitsB], BV, GB⟩
        case round =>
          obtain ⟨k, hk, rfl, hok, BV, hBw⟩ := hrel
          have HO := Lib.hid hok
          clear hok
          by_cases hlt : k < waits.length
          · have hi0 : (0 : Int) ≤ (k : Int) := by omega
            have hi1 : (k : Int) < (waits.length : Int) := by omega
            have hkey := chain_key HC3.out k hlt
            have hv := hin.wt.below hBw
            obtain ⟨b, off, rfl, hbl, c0, c1, c2, c3, c4, c5, c6⟩ := hv.at_ k hlt
            have HT := Lib.hid (all_vs (p := fun v => hereB slots v.key) waits k hlt)
            have HU := Lib.hid (all_vs (p := waitB site (vs vers)) waits k hlt)
            have hbl9 := BV.lt
            have hbl8 : w.heap.size < wr.heap.size + 1 := by omega
            have BE := Blk.new wr #[.int .i64 waits[k].v.key, .int .i64 waits[k].v.time, .int .i64 waits[k].v.site, .int .i64 waits[k].v.val, .int .i64 waits[k].v.client, .int .i64 waits[k].v.call, .slice waits[k].a waits[k].v.deps.length waits[k].c] 27
            have BV := BV.alloc (.cells #[.int .i64 waits[k].v.key, .int .i64 waits[k].v.time, .int .i64 waits[k].v.site, .int .i64 waits[k].v.val, .int .i64 waits[k].v.client, .int .i64 waits[k].v.call, .slice waits[k].a waits[k].v.deps.length waits[k].c] 27)
            have G0 := below_alloc hBw (.cells #[.int .i64 waits[k].v.key, .int .i64 waits[k].v.time, .int .i64 waits[k].v.site, .int .i64 waits[k].v.val, .int .i64 waits[k].v.client, .int .i64 waits[k].v.call, .slice waits[k].a waits[k].v.deps.length waits[k].c] 27)
            clear p0 p1 p2 p3 p4 p5 p6 pf pl
            obtain ⟨e0, e1, e2, e3, e4, e5, e6, ef, el⟩ := BE.seven
            obtain ⟨q0, q1, q2, q3, q4, q5, q6, qf, ql⟩ := BV.seven
            have hsl := hin.sl.below G0
            have hvr := hin.vr.below G0
            clear hv
            rcases hh : hereB slots waits[k].v.key with _ | _
            · have HN : Hid (serverOkB ⟨site, true, slots, vers, waits, owes, knows, sa, sc, va, vc, (some ⟨b, off, none⟩), wc, oa, oc, ka, kc⟩ = false) := serv_no3 (all_vs_bad (p := fun v => hereB slots v.key) k hlt hh)
              have hst : (standI slots waits[k].v.key == 0) = true := here_stand hh
              clear hh
              go_wp2
              refine region_over (by kernel_rfl) (by kernel_rfl) ?_
              repeat (go_big_quiet_step (first | (go_at_call 79; exact quiet_over (stand_impl ⟨site, true, slots, vers, waits, owes, knows, sa, sc, va, vc, (some ⟨b, off, none⟩), wc, oa, oc, ka, kc⟩ sa waits[k].v.key _ (hsl.below (over_below _ _)) H3.out hkey)) | (go_at_call 80; exact quiet_over (bool_is hsg (stranger_impl ⟨site, true, slots, vers, waits, owes, knows, sa, sc, va, vc, (some ⟨b, off, none⟩), wc, oa, oc, ka, kc⟩ waits[k].v _ _ _))) | (go_at_call 81; exact quiet_over (dep_impl _ _ _ _ _ _ _ _ _ _)) | (go_at_call 60; exact quiet_over (place_impl vers va vc (waits[k].v.key, waits[k].v.time, waits[k].v.site) _ (hvr.below (over_below _ _)) hf.vr.1))))
              refine wpQuiet_nil ?_
              intro w9 hb9
              have G1 := below_after G0 hb9
              have BV := BV.below hb9 BV.lt
              go_wp2
              go_ret
              exact ⟨by rw [HN.out]; rfl, G1⟩
            have hst : (standI slots waits[k].v.key == 0) = false := here_stand hh
            rcases hsg : (!decide (siteSideI waits[k].v.site = siteSideI site)) with _ | _
            · have HN : Hid (serverOkB ⟨site, true, slots, vers, waits, owes, knows, sa, sc, va, vc, (some ⟨b, off, none⟩), wc, oa, oc, ka, kc⟩ = false) := serv_no4 (all_vs_bad (p := waitB site (vs vers)) k hlt (by unfold waitB; rw [hsg]; rfl))
              clear hh
              go_wp2
              refine region_over (by kernel_rfl) (by kernel_rfl) ?_
              repeat (go_big_quiet_step (first | (go_at_call 79; exact quiet_over (stand_impl ⟨site, true, slots, vers, waits, owes, knows, sa, sc, va, vc, (some ⟨b, off, none⟩), wc, oa, oc, ka, kc⟩ sa waits[k].v.key _ (hsl.below (over_below _ _)) H3.out hkey)) | (go_at_call 80; exact quiet_over (bool_is hsg (stranger_impl ⟨site, true, slots, vers, waits, owes, knows, sa, sc, va, vc, (some ⟨b, off, none⟩), wc, oa, oc, ka, kc⟩ waits[k].v _ _ _))) | (go_at_call 81; exact quiet_over (dep_impl _ _ _ _ _ _ _ _ _ _)) | (go_at_call 60; exact quiet_over (place_impl vers va vc (waits[k].v.key, waits[k].v.time, waits[k].v.site) _ (hvr.below (over_below _ _)) hf.vr.1))))
              refine wpQuiet_nil ?_
              intro w9 hb9
              have G1 := below_after G0 hb9
              have BV := BV.below hb9 BV.lt
              go_wp2
              go_ret
              exact ⟨by rw [HN.out]; rfl, G1⟩
            rcases hp : hasV (vs vers) (waits[k].v.key, waits[k].v.time, waits[k].v.site) with _ | _
            · have HN : Hid (versHereB slots ((vs waits).take (k + 1)) = true ∧ waitsB site (vs vers) ((vs waits).take (k + 1)) = true) := by
                refine ⟨?_, ?_⟩
                · unfold versHereB; rw [HT.out, show ((vs waits).take k).all _ = true from HO.out.1, hh]; rfl
                · unfold waitsB; rw [HU.out, show ((vs waits).take k).all _ = true from HO.out.2]; unfold waitB; rw [hsg, hp]; rfl
              have hpl : decide (0 ≤ placeI (vs vers) (waits[k].v.key, waits[k].v.time, waits[k].v.site)) = false := by rw [place_has, hp]
              clear hh hp
              go_wp2
              refine region_over (by kernel_rfl) (by kernel_rfl) ?_
              repeat (go_big_quiet_step (first | (go_at_call 79; exact quiet_over (stand_impl ⟨site, true, slots, vers, waits, owes, knows, sa, sc, va, vc, (some ⟨b, off, none⟩), wc, oa, oc, ka, kc⟩ sa waits[k].v.key _ (hsl.below (over_below _ _)) H3.out hkey)) | (go_at_call 80; exact quiet_over (bool_is hsg (stranger_impl ⟨site, true, slots, vers, waits, owes, knows, sa, sc, va, vc, (some ⟨b, off, none⟩), wc, oa, oc, ka, kc⟩ waits[k].v _ _ _))) | (go_at_call 81; exact quiet_over (dep_impl _ _ _ _ _ _ _ _ _ _)) | (go_at_call 60; exact quiet_over (place_impl vers va vc (waits[k].v.key, waits[k].v.time, waits[k].v.site) _ (hvr.below (over_below _ _)) hf.vr.1))))
              refine wpQuiet_nil ?_
              intro w9 hb9
              have G1 := below_after G0 hb9
              have BV := BV.below hb9 BV.lt
              go_wp2
              go_roundw
              case rel => exact ⟨k + 1, by omega, by go_num, HN.out, BV, G1⟩
              case measure => simp [intOf]; omega
            · have HN : Hid (serverOkB ⟨site, true, slots, vers, waits, owes, knows, sa, sc, va, vc, (some ⟨b, off, none⟩), wc, oa, oc, ka, kc⟩ = false) := serv_no4 (all_vs_bad (p := waitB site (vs vers)) k hlt (by unfold waitB; rw [hp, Bool.not_true, Bool.and_false]))
              have hpl : decide (0 ≤ placeI (vs vers) (waits[k].v.key, waits[k].v.time, waits[k].v.site)) = true := by rw [place_has, hp]
              clear hh hp
              go_wp2
              refine region_over (by kernel_rfl) (by kernel_rfl) ?_
              repeat (go_big_quiet_step (first | (go_at_call 79; exact quiet_over (stand_impl ⟨site, true, slots, vers, waits, owes, knows, sa, sc, va, vc, (some ⟨b, off, none⟩), wc, oa, oc, ka, kc⟩ sa waits[k].v.key _ (hsl.below (over_below _ _)) H3.out hkey)) | (go_at_call 80; exact quiet_over (bool_is hsg (stranger_impl ⟨site, true, slots, vers, waits, owes, knows, sa, sc, va, vc, (some ⟨b, off, none⟩), wc, oa, oc, ka, kc⟩ waits[k].v _ _ _))) | (go_at_call 81; exact quiet_over (dep_impl _ _ _ _ _ _ _ _ _ _)) | (go_at_call 60; exact quiet_over (place_impl vers va vc (waits[k].v.key, waits[k].v.time, waits[k].v.site) _ (hvr.below (over_below _ _)) hf.vr.1))))
              refine wpQuiet_nil ?_
              intro w9 hb9
              have G1 := below_after G0 hb9
              have BV := BV.below hb9 BV.lt
              go_wp2
              go_ret
              exact ⟨by rw [HN.out]; rfl, G1⟩
          obtain rfl : k = waits.length := by omega
          have HN := Lib.hid (serv_end (x := ⟨site, true, slots, vers, waits, owes, knows, sa, sc, va, vc, wa, wc, oa, oc, ka, kc⟩) HD.out H1.out H2.out (all_vs_end HO.out.1) (all_vs_end HO.out.2))
          clear HO hk hlt
          obtain ⟨q0, q1, q2, q3, q4, q5, q6, qf, ql⟩ := BV.seven
          go_wp2_with fail
          refine (hasAll_impl vers va vc owes oa oc _ (hin.vr.below hBw) hf.vr.1 (hin.ow.below hBw)).mono ?_
          rintro e w1 ⟨rfl, hb1⟩
          go_wp2
          go_ret
          exact ⟨by rw [HN.out]; rfl, below_after hBw hb1⟩
end Go.Proofs.Ythciikogogkfcaa
