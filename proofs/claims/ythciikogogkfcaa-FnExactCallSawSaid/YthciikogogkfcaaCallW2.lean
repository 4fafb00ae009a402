/- A call's keys and answers: the program's functions. -/
import Derived.Test.YthciikogogkfcaaCallW
import Derived.Deep.CutRange
namespace Go.Proofs.Ythciikogogkfcaa
open Go.RowKit Go.Deep
set_option linter.unusedVariables false

theorem k_rest {kind : Int} {keys : List Int} (h : kAscB keys = true) : keysB kind keys = ((decide (kind = 1) && decide (keys.length = 1)) || (decide (kind = 2) && inB (keys.length : Int) 1 3)) := by
  rw [keysB, h]; rfl
theorem k_no {kind : Int} {keys : List Int} (k : Nat) (h : kAscB (keys.take k) = false) : keysB kind keys = false := by
  rw [keysB, kAsc_bad keys k h]; rfl
set_option maxHeartbeats 2000000 in
theorem keysOk_impl (x : Mc) (ka : Option Addr) (w : World) (hr : Reads w ka x.keys.length x.kc (intsC x.keys)) (hl : x.keys.length ≤ 1048577) :
    Calls Try.prog 95 #[.agg #[.int .i64 x.client, .int .i64 x.num, .int .i64 x.kind, .slice ka x.keys.length x.kc, .int .i64 x.val, .slice x.xa x.ctx.length x.xc, .int .i64 x.beg, .int .i64 x.fin, .bool x.over, .int .i64 x.time, .int .i64 x.site, .slice x.ga x.got.length x.gc, .slice x.na x.needs.length x.nc]] w (Says (keysB x.kind x.keys) w) := by
  have BC := Blk.new w #[.int .i64 x.client, .int .i64 x.num, .int .i64 x.kind, .slice ka x.keys.length x.kc, .int .i64 x.val, .slice x.xa x.ctx.length x.xc, .int .i64 x.beg, .int .i64 x.fin, .bool x.over, .int .i64 x.time, .int .i64 x.site, .slice x.ga x.got.length x.gc, .slice x.na x.needs.length x.nc] 73
  have G0 := below_box w (.cells #[.int .i64 x.client, .int .i64 x.num, .int .i64 x.kind, .slice ka x.keys.length x.kc, .int .i64 x.val, .slice x.xa x.ctx.length x.xc, .int .i64 x.beg, .int .i64 x.fin, .bool x.over, .int .i64 x.time, .int .i64 x.site, .slice x.ga x.got.length x.gc, .slice x.na x.needs.length x.nc] 73)
  obtain ⟨p0, p1, p2, p3, p4, p5, p6, p7, p8, p9, p10, p11, p12, pf, pl⟩ := BC.call
  go_enter Try.func95, Try.ntmps95
  go_wp2
  go_loop [3, 9] (fun la i => ∃ k : Nat, k ≤ x.keys.length ∧ i = .int .i64 k ∧ la = .int .i64 (lastI (-1) (x.keys.take k)) ∧ kAscB (x.keys.take k) = true) (fun _ i => x.keys.length - (intOf i).toNat)
  case atStart => exact ⟨0, Nat.zero_le _, rfl, rfl, rfl⟩
  case round =>
    obtain ⟨k, hk, rfl, rfl, hno⟩ := hrel
    have HO := Lib.hid hno
    obtain ⟨hb1, hb2⟩ := kAsc_bd hno
    have hT := kAsc_take x.keys k
    generalize hla : lastI (-1) (x.keys.take k) = la at *
    clear hno
    have hw1 : IntKind.i64.wrap (la + 1) = la + 1 := by rw [IntKind.wrap_i64]; omega
    by_cases hlt : k < x.keys.length
    · have hi0 : (0 : Int) ≤ (k : Int) := by omega
      have hi1 : (k : Int) < (x.keys.length : Int) := by omega
      obtain ⟨b, off, rfl, hbl, c0'⟩ := key_cell hr k hlt
      have c0 := (G0.cell (p := ⟨b, off + k, none⟩) hbl).trans c0'
      have hbl2 := Nat.lt_of_lt_of_le hbl G0.size
      have c1 : (w.alloc (.cells #[.int .i64 x.client, .int .i64 x.num, .int .i64 x.kind, .slice (some ⟨b, off, none⟩) x.keys.length x.kc, .int .i64 x.val, .slice x.xa x.ctx.length x.xc, .int .i64 x.beg, .int .i64 x.fin, .bool x.over, .int .i64 x.time, .int .i64 x.site, .slice x.ga x.got.length x.gc, .slice x.na x.needs.length x.nc] 73)).cell? ⟨b, off + k * 1, none⟩ = some (.int .i64 x.keys[k]) := by rw [Nat.mul_one]; exact c0
      clear c0'
      have HT := Lib.hid (hT hlt)
      have hc := k_cond hb1 x.keys[k]
      clear hT
      rcases hin : inB x.keys[k] (la + 1) 5 with _ | _
      · have HN : Hid (keysB x.kind x.keys = false) := k_no (k + 1) (by rw [HT.out.1, hc, hin, Bool.and_false])
        clear hc hla
        go_wp2_with (first | (go_at_call 49; refine (in_impl _ _ _ _).mono ?_; rintro e w' ⟨rfl, rfl⟩))
        go_ret
        exact ⟨by rw [HN.out]; rfl, G0⟩
      · have HN : Hid (kAscB (x.keys.take (k + 1)) = true) := by show _ = _; rw [HT.out.1, hc, hin, HO.out]; rfl
        have HM := Lib.hid HT.out.2
        clear hc hla
        go_wp2_with (first | (go_at_call 49; refine (in_impl _ _ _ _).mono ?_; rintro e w' ⟨rfl, rfl⟩))
        go_round
        case rel => exact ⟨k + 1, by omega, by go_num, by rw [HM.out], HN.out⟩
        case measure => simp [intOf]; omega
    · obtain rfl : k = x.keys.length := by omega
      have HN := Lib.hid (k_rest (kind := x.kind) (show kAscB x.keys = true by have := HO.out; rwa [List.take_length] at this))
      clear hT hla
      by_cases h1 : x.kind = 1
      · have h1' : (x.kind == 1) = true := by simpa using h1
        have h2' : (x.kind == 2) = false := by simp [h1]
        by_cases h3 : x.keys.length = 1
        · have h3' : ((x.keys.length : Int) == 1) = true := by rw [beq_iff_eq]; omega
          have HN : Hid (keysB x.kind x.keys = true) := by show _ = _; rw [HN.out, decide_eq_true h1, decide_eq_true h3]; rfl
          clear h1 h3
          go_wp2_with (first | (go_at_call 49; refine (in_impl _ _ _ _).mono ?_; rintro e w' ⟨rfl, rfl⟩))
          go_ret
          exact ⟨by rw [HN.out]; rfl, G0⟩
        · have h3' : ((x.keys.length : Int) == 1) = false := by rw [beq_eq_false_iff_ne]; omega
          have HN : Hid (keysB x.kind x.keys = false) := by show _ = _; rw [HN.out, decide_eq_false h3, decide_eq_false (show ¬ x.kind = 2 by omega), Bool.and_false]; rfl
          clear h1 h3
          go_wp2_with (first | (go_at_call 49; refine (in_impl _ _ _ _).mono ?_; rintro e w' ⟨rfl, rfl⟩))
          go_ret
          exact ⟨by rw [HN.out]; rfl, G0⟩
      · have h1' : (x.kind == 1) = false := by simpa using h1
        by_cases h2 : x.kind = 2
        · have h2' : (x.kind == 2) = true := by simpa using h2
          have HN : Hid (keysB x.kind x.keys = inB (x.keys.length : Int) 1 3) := by show _ = _; rw [HN.out, decide_eq_false h1, decide_eq_true h2, Bool.false_and, Bool.false_or, Bool.true_and]
          clear h1 h2
          go_wp2_with (first | (go_at_call 49; refine (in_impl _ _ _ _).mono ?_; rintro e w' ⟨rfl, rfl⟩))
          go_ret
          exact ⟨by rw [HN.out]; rfl, G0⟩
        · have h2' : (x.kind == 2) = false := by simpa using h2
          have HN : Hid (keysB x.kind x.keys = false) := by show _ = _; rw [HN.out, decide_eq_false h1, decide_eq_false h2]; rfl
          clear h1 h2
          go_wp2_with (first | (go_at_call 49; refine (in_impl _ _ _ _).mono ?_; rintro e w' ⟨rfl, rfl⟩))
          go_ret
          exact ⟨by rw [HN.out]; rfl, G0⟩

end Go.Proofs.Ythciikogogkfcaa
