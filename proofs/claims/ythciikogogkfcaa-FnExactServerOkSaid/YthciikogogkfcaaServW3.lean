/- A server's validity: the reference's. -/
import Derived.Test.YthciikogogkfcaaServW2
import Derived.Deep.CutRange
import Derived.Deep.RegionHeld3
namespace Go.Proofs.Ythciikogogkfcaa
open Go.RowKit Go.Deep
set_option linter.unusedVariables false

theorem serv_end' {x : Ms} (h0 : headB x = true) (h1 : slotsB x.slots = true) (h2 : versHereB x.slots (vs x.vers) = true) (h3 : versHereB x.slots (vs x.waits) = true) (h4 : waitsB x.site (vs x.vers) (vs x.waits) = true) (h5 : hasAllB (vs x.vers) x.owes = true) : serverOkB x = true := by
  simp [serverOkB, h0, h1, h2, h3, h4, h5]
set_option maxHeartbeats 2000000 in
theorem l21Vers_spec (x : Ms) (l : List Mv) (a : Option Addr) (c : Nat) (w : World) (hsl : Reads w x.sa x.slots.length x.sc (stsC x.slots)) (h3 : x.slots.length = 3) (hvs : Vers w a c l) (hok : chainOkB (vs l) = true) (hl : l.length ≤ 1048577) :
    Calls Try.prog 74 #[.agg #[.int .i64 x.site, .bool x.up, .slice x.sa x.slots.length x.sc, .slice x.va x.vers.length x.vc, .slice x.wa x.waits.length x.wc, .slice x.oa x.owes.length x.oc, .slice x.ka x.knows.length x.kc], .slice a l.length c] w (Says (versHereB x.slots (vs l)) w) := by
  have H3 := Lib.hid h3
  have HC := Lib.hid hok
  clear h3 hok
  have BV := Blk.new w #[.int .i64 x.site, .bool x.up, .slice x.sa x.slots.length x.sc, .slice x.va x.vers.length x.vc, .slice x.wa x.waits.length x.wc, .slice x.oa x.owes.length x.oc, .slice x.ka x.knows.length x.kc] 59
  have G0 := below_box w (.cells #[.int .i64 x.site, .bool x.up, .slice x.sa x.slots.length x.sc, .slice x.va x.vers.length x.vc, .slice x.wa x.waits.length x.wc, .slice x.oa x.owes.length x.oc, .slice x.ka x.knows.length x.kc] 59)
  go_enter Try.func74, Try.ntmps74
  go_wp2
  go_loopw [5] (fun i wr => ∃ k : Nat, k ≤ l.length ∧ i = .int .i64 k ∧ versHereB x.slots ((vs l).take k) = true ∧ Blk wr w.heap.size #[.int .i64 x.site, .bool x.up, .slice x.sa x.slots.length x.sc, .slice x.va x.vers.length x.vc, .slice x.wa x.waits.length x.wc, .slice x.oa x.owes.length x.oc, .slice x.ka x.knows.length x.kc] 59 ∧ Below w.heap.size w wr) (fun i _ => l.length - (intOf i).toNat)
  case atStart => exact ⟨0, Nat.zero_le _, rfl, by simp [versHereB], BV, G0⟩
  case round =>
    obtain ⟨k, hk, rfl, hok, BV, hBw⟩ := hrel
    have HO := Lib.hid hok
    clear hok
    by_cases hlt : k < l.length
    · have hi0 : (0 : Int) ≤ (k : Int) := by omega
      have hi1 : (k : Int) < (l.length : Int) := by omega
      have hkey := chain_key HC.out k hlt
      have h3 := H3.out
      have hv := hvs.below hBw
      have hs1 := hsl.below hBw
      obtain ⟨b, off, rfl, hbl, c0, c1, c2, c3, c4, c5, c6⟩ := hv.at_ k hlt
      have HT := Lib.hid (all_vs (p := fun v => hereB x.slots v.key) l k hlt)
      obtain ⟨q0, q1, q2, q3, q4, q5, q6, qf, ql⟩ := BV.seven
      have hh3 := Lib.hid h3
      clear h3
      have h3 := hh3.out
      rcases hh : hereB x.slots l[k].v.key with _ | _
      · have HN : Hid (versHereB x.slots (vs l) = false) := all_vs_bad (p := fun v => hereB x.slots v.key) k hlt hh
        have HW := Lib.hid h3
        clear h3
        go_wp2
        refine region_over (by kernel_rfl) (by kernel_rfl) ?_
        repeat (go_big_quiet_step (first | (go_at_call 118; exact quiet_over (bool_is hh (here_spec x x.sa l[k].v.key _ (hs1.below (over_below _ _)) HW.out hkey)))))
        refine wpQuiet_nil ?_
        intro w9 hb9
        have G1 := below_after hBw hb9
        have BV := BV.below hb9 BV.lt
        go_wp2
        go_ret
        exact ⟨by rw [HN.out]; rfl, G1⟩
      · have HN : Hid (versHereB x.slots ((vs l).take (k + 1)) = true) := by show _ = _; unfold versHereB; rw [HT.out, show ((vs l).take k).all _ = true from HO.out, hh]; rfl
        have HW := Lib.hid h3
        clear h3
        go_wp2
        refine region_over (by kernel_rfl) (by kernel_rfl) ?_
        repeat (go_big_quiet_step (first | (go_at_call 118; exact quiet_over (bool_is hh (here_spec x x.sa l[k].v.key _ (hs1.below (over_below _ _)) HW.out hkey)))))
        refine wpQuiet_nil ?_
        intro w9 hb9
        have G1 := below_after hBw hb9
        have BV := BV.below hb9 BV.lt
        go_wp2
        go_roundw
        case rel => exact ⟨k + 1, by omega, by go_num, HN.out, BV, G1⟩
        case measure => simp [intOf]; omega
    · obtain rfl : k = l.length := by omega
      have HN : Hid (versHereB x.slots (vs l) = true) := all_vs_end HO.out
      go_wp2
      go_ret
      exact ⟨by rw [HN.out]; rfl, hBw⟩

end Go.Proofs.Ythciikogogkfcaa
