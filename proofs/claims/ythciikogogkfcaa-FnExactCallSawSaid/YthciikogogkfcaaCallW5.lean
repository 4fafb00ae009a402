/- A call's parts: the reference's functions. -/
import Derived.Test.YthciikogogkfcaaCallW2
namespace Go.Proofs.Ythciikogogkfcaa
open Go.RowKit Go.Deep
set_option linter.unusedVariables false

set_option maxHeartbeats 1000000 in
theorem l31Has_spec (l : List Int) (a : Option Addr) (c : Nat) (k : Int) (w : World) (hr : Reads w a l.length c (intsC l)) (hl : l.length ≤ 1048577) :
    Calls Try.prog 90 #[.slice a l.length c, .int .i64 k] w fun e w' => e = .returned (.bool (hasK l k)) ∧ w = w' := by
  go_enter Try.func90, Try.ntmps90
  go_wp2
  go_loop [5] (fun i => ∃ j : Nat, j ≤ l.length ∧ i = .int .i64 j ∧ hasK (l.take j) k = false) (fun i => l.length - (intOf i).toNat)
  case atStart => exact ⟨0, Nat.zero_le _, rfl, rfl⟩
  case round =>
    obtain ⟨j, hj, rfl, hno⟩ := hrel
    have HO := Lib.hid hno
    clear hno
    by_cases hlt : j < l.length
    · have hi0 : (0 : Int) ≤ (j : Int) := by omega
      have hi1 : (j : Int) < (l.length : Int) := by omega
      obtain ⟨b, off, rfl, hbl, c0⟩ := key_cell hr j hlt
      have HT := Lib.hid (hasK_take l k j hlt)
      by_cases he : l[j] = k
      · have HN : Hid (hasK l k = true) := hasK_hit j hlt he
        have he' : (l[j] == k) = true := by simp [he]
        clear he
        go_wp2
        go_ret
        exact ⟨by rw [HN.out]; rfl, rfl⟩
      · have HN : Hid (hasK (l.take (j + 1)) k = false) := by show _ = _; rw [HT.out, HO.out, decide_eq_false he]; rfl
        have he' : (l[j] == k) = false := by simpa using he
        clear he
        go_wp2
        go_round
        case rel => exact ⟨j + 1, by omega, by go_num, HN.out⟩
        case measure => simp [intOf]; omega
    · obtain rfl : j = l.length := by omega
      have HN : Hid (hasK l k = false) := by have := HO.out; rwa [List.take_length] at this
      go_wp2
      go_ret
      exact ⟨by rw [HN.out]; rfl, rfl⟩

set_option maxHeartbeats 1000000 in
theorem l31Got_spec (x : Mc) (ga : Option Addr) (q : Int) (w : World) (hvs : Ans w ga x.gc x.got) (hl : x.got.length ≤ 1048577) :
    Calls Try.prog 91 #[.agg #[.int .i64 x.client, .int .i64 x.num, .int .i64 x.kind, .slice x.ka x.keys.length x.kc, .int .i64 x.val, .slice x.xa x.ctx.length x.xc, .int .i64 x.beg, .int .i64 x.fin, .bool x.over, .int .i64 x.time, .int .i64 x.site, .slice ga x.got.length x.gc, .slice x.na x.needs.length x.nc], .int .i64 q] w fun e w' => e = .returned (.int .i64 (idxA (ps x.got) q)) ∧ Below w.heap.size w w' := by
  have BC := Blk.new w #[.int .i64 x.client, .int .i64 x.num, .int .i64 x.kind, .slice x.ka x.keys.length x.kc, .int .i64 x.val, .slice x.xa x.ctx.length x.xc, .int .i64 x.beg, .int .i64 x.fin, .bool x.over, .int .i64 x.time, .int .i64 x.site, .slice ga x.got.length x.gc, .slice x.na x.needs.length x.nc] 73
  have G0 := below_box w (.cells #[.int .i64 x.client, .int .i64 x.num, .int .i64 x.kind, .slice x.ka x.keys.length x.kc, .int .i64 x.val, .slice x.xa x.ctx.length x.xc, .int .i64 x.beg, .int .i64 x.fin, .bool x.over, .int .i64 x.time, .int .i64 x.site, .slice ga x.got.length x.gc, .slice x.na x.needs.length x.nc] 73)
  have hvs := hvs.below G0
  obtain ⟨p0, p1, p2, p3, p4, p5, p6, p7, p8, p9, p10, p11, p12, pf, pl⟩ := BC.call
  go_enter Try.func91, Try.ntmps91
  go_wp2
  go_loop [5] (fun i => ∃ k : Nat, k ≤ x.got.length ∧ i = .int .i64 k ∧ (∀ v ∈ (ps x.got).take k, v.key ≠ q)) (fun i => x.got.length - (intOf i).toNat)
  case atStart => exact ⟨0, Nat.zero_le _, rfl, by simp⟩
  case round =>
    obtain ⟨k, hk, rfl, hno⟩ := hrel
    have HO := Lib.hid hno
    clear hno
    by_cases hlt : k < x.got.length
    · have hi0 : (0 : Int) ≤ (k : Int) := by omega
      have hi1 : (k : Int) < (x.got.length : Int) := by omega
      obtain ⟨b, off, hab, hbl, c0, _⟩ := hvs.at_ k hlt
      subst hab
      by_cases his : x.got[k].p.key = q
      · have HN : Hid (idxA (ps x.got) q = (k : Int)) := idxA_hit (by rw [ps_len]; exact hlt) HO.out (by rw [ps_get x.got k hlt]; exact his)
        have his' : (x.got[k].p.key == q) = true := by simpa using his
        clear his
        go_wp2
        go_ret
        exact ⟨by rw [HN.out]; rfl, G0⟩
      · have HN : Hid (∀ v ∈ (ps x.got).take (k + 1), v.key ≠ q) := noneA_take (by rw [ps_len]; exact hlt) HO.out (by rw [ps_get x.got k hlt]; exact his)
        have his' : (x.got[k].p.key == q) = false := by simpa using his
        clear his
        go_wp2
        go_round
        case rel => exact ⟨k + 1, by omega, by go_num, HN.out⟩
        case measure => simp [intOf]; omega
    · obtain rfl : k = x.got.length := by omega
      have HN : Hid (idxA (ps x.got) q = -1) := idxA_miss (by have := HO.out; rwa [← ps_len x.got, List.take_length] at this)
      go_wp2
      go_ret
      exact ⟨by rw [HN.out]; rfl, G0⟩

theorem ks_rest {kind : Int} {keys : List Int} (h : inB (keys.length : Int) 1 3 = true) (h1 : (!decide (kind = 1) || decide (keys.length = 1)) = true) : keysS kind keys = kAscB keys := by
  rw [keysS, h, h1]; rfl
theorem ks_no {kind : Int} {keys : List Int} (h : inB (keys.length : Int) 1 3 = false) : keysS kind keys = false := by
  rw [keysS, h]; rfl
theorem ks_one {kind : Int} {keys : List Int} (h1 : (!decide (kind = 1) || decide (keys.length = 1)) = false) : keysS kind keys = false := by
  rw [keysS, h1, Bool.false_and, Bool.and_false]
theorem kAsc_first {l : List Int} {k : Nat} (h : k < l.length) (h0 : kAscB (l.take k) = true) (hin : inB l[k] 0 5 = true) (hp : ∀ hj : k - 1 < l.length, k = 0 ∨ l[k - 1] < l[k]) : kAscB (l.take (k + 1)) = true := by
  rw [(kAsc_take l k h).1, h0, hin, Bool.and_true, Bool.true_and, decide_eq_true_eq]
  have hb := inB_iff.1 hin
  rcases Nat.eq_zero_or_pos k with rfl | hk
  · simp [lastI]; omega
  · rw [lastI_prev l k h hk]
    rcases hp (by omega) with h1 | h1
    · omega
    · exact h1
theorem kAsc_worse {l : List Int} {k : Nat} (h : k < l.length) (hk : 0 < k) (hj : k - 1 < l.length) (hp : ¬ l[k - 1] < l[k]) : kAscB l = false :=
  kAsc_bad l (k + 1) (by rw [(kAsc_take l k h).1, lastI_prev l k h hk, decide_eq_false hp]; simp)
theorem kAsc_out {l : List Int} {k : Nat} (h : k < l.length) (hin : inB l[k] 0 5 = false) : kAscB l = false :=
  kAsc_bad l (k + 1) (by rw [(kAsc_take l k h).1, hin]; simp)
theorem nand_t {q1 q2 : Bool} (h : false = !(q1 && q2)) : q1 = true ∧ q2 = true := by revert h; cases q1 <;> cases q2 <;> decide
theorem nand_f {q1 q2 : Bool} (h : true = !(q1 && q2)) : q1 = false ∨ (q1 = true ∧ q2 = false) := by revert h; cases q1 <;> cases q2 <;> decide
set_option maxHeartbeats 4000000 in
theorem l31Keys_spec (x : Mc) (ka : Option Addr) (w : World) (hr : Reads w ka x.keys.length x.kc (intsC x.keys)) (hl : x.keys.length ≤ 1048577) :
    Calls Try.prog 88 #[.agg #[.int .i64 x.client, .int .i64 x.num, .int .i64 x.kind, .slice ka x.keys.length x.kc, .int .i64 x.val, .slice x.xa x.ctx.length x.xc, .int .i64 x.beg, .int .i64 x.fin, .bool x.over, .int .i64 x.time, .int .i64 x.site, .slice x.ga x.got.length x.gc, .slice x.na x.needs.length x.nc]] w (Says (keysS x.kind x.keys) w) := by
  have BC := Blk.new w #[.int .i64 x.client, .int .i64 x.num, .int .i64 x.kind, .slice ka x.keys.length x.kc, .int .i64 x.val, .slice x.xa x.ctx.length x.xc, .int .i64 x.beg, .int .i64 x.fin, .bool x.over, .int .i64 x.time, .int .i64 x.site, .slice x.ga x.got.length x.gc, .slice x.na x.needs.length x.nc] 73
  have G0 := below_box w (.cells #[.int .i64 x.client, .int .i64 x.num, .int .i64 x.kind, .slice ka x.keys.length x.kc, .int .i64 x.val, .slice x.xa x.ctx.length x.xc, .int .i64 x.beg, .int .i64 x.fin, .bool x.over, .int .i64 x.time, .int .i64 x.site, .slice x.ga x.got.length x.gc, .slice x.na x.needs.length x.nc] 73)
  obtain ⟨p0, p1, p2, p3, p4, p5, p6, p7, p8, p9, p10, p11, p12, pf, pl⟩ := BC.call
  go_enter Try.func88, Try.ntmps88
  by_cases h1 : (x.keys.length : Int) < 1
  · have HN : Hid (keysS x.kind x.keys = false) := ks_no (by rw [← Bool.not_eq_true, inB_iff]; omega)
    have h1' : decide ((x.keys.length : Int) < 1) = true := decide_eq_true h1
    go_wp2
    go_ret
    exact ⟨by rw [HN.out]; rfl, G0⟩
  have h1' : decide ((x.keys.length : Int) < 1) = false := decide_eq_false h1
  by_cases h3 : 3 < (x.keys.length : Int)
  · have HN : Hid (keysS x.kind x.keys = false) := ks_no (by rw [← Bool.not_eq_true, inB_iff]; omega)
    have h3' : decide (3 < (x.keys.length : Int)) = true := decide_eq_true h3
    go_wp2
    go_ret
    exact ⟨by rw [HN.out]; rfl, G0⟩
  have h3' : decide (3 < (x.keys.length : Int)) = false := decide_eq_false h3
  have HI : Hid (inB (x.keys.length : Int) 1 3 = true) := inB_iff.2 ⟨by omega, by omega⟩
  obtain ⟨b1, hb1⟩ : ∃ b, (!decide (x.kind = 1) || decide (x.keys.length = 1)) = b := ⟨_, rfl⟩
  have hreg : ∃ q1 q2 : Bool, (x.kind == 1) = q1 ∧ ((x.keys.length : Int) != 1) = q2 ∧ b1 = !(q1 && q2) := by
    refine ⟨_, _, rfl, rfl, ?_⟩
    rw [← hb1]
    by_cases e1 : x.kind = 1
    · by_cases e2 : x.keys.length = 1
      · simp [e1, e2]
      · simp [e1, e2]; omega
    · simp [e1]
  obtain ⟨q1, q2, hq1, hq2, hb⟩ := hreg
  rcases b1 with _ | _
  · have HN : Hid (keysS x.kind x.keys = false) := ks_one hb1
    obtain ⟨rfl, rfl⟩ := nand_t hb
    clear hb hb1 h1 h3
    go_wp2
    go_ret
    exact ⟨by rw [HN.out]; rfl, G0⟩
  have HR := Lib.hid (ks_rest (kind := x.kind) (keys := x.keys) HI.out hb1)
  have hcs := nand_f hb
  clear hb hb1 h1 h3
  rcases hcs with rfl | ⟨rfl, rfl⟩
  all_goals (
    go_wp2
    go_loopw [3] (fun i wr => ∃ k : Nat, k ≤ x.keys.length ∧ i = .int .i64 k ∧ kAscB (x.keys.take k) = true ∧ Blk wr w.heap.size #[.int .i64 x.client, .int .i64 x.num, .int .i64 x.kind, .slice ka x.keys.length x.kc, .int .i64 x.val, .slice x.xa x.ctx.length x.xc, .int .i64 x.beg, .int .i64 x.fin, .bool x.over, .int .i64 x.time, .int .i64 x.site, .slice x.ga x.got.length x.gc, .slice x.na x.needs.length x.nc] 73 ∧ Below w.heap.size w wr) (fun i _ => x.keys.length - (intOf i).toNat)
    case atStart => exact ⟨0, Nat.zero_le _, rfl, rfl, BC, G0⟩
    case round =>
      obtain ⟨k, hk, rfl, hok, BC, hBw⟩ := hrel
      have HO := Lib.hid hok
      clear hok
      clear p0 p1 p2 p3 p4 p5 p6 p7 p8 p9 p10 p11 p12 pf pl G0
      by_cases hlt : k < x.keys.length
      · have hi0 : (0 : Int) ≤ (k : Int) := by omega
        have hi1 : (k : Int) < (x.keys.length : Int) := by omega
        have hrw := hr.below hBw
        obtain ⟨b, off, rfl, hbl, c0⟩ := key_cell hrw k hlt
        obtain ⟨p0, p1, p2, p3, p4, p5, p6, p7, p8, p9, p10, p11, p12, pf, pl⟩ := BC.call
        rcases hin : inB x.keys[k] 0 5 with _ | _
        · have HN : Hid (keysS x.kind x.keys = false) := by show _ = _; rw [HR.out]; exact kAsc_out hlt hin
          have HK := Lib.hid hin
          clear hin hrw
          go_wp2
          refine region_over (by kernel_rfl) (by kernel_rfl) ?_
          repeat (go_big_quiet_step (first | (go_at_call 52; exact quiet_over_same (bool_is HK.out (isKey_spec _ _)))))
          refine wpQuiet_nil ?_
          intro w9 hb9
          have G1 := below_after hBw hb9
          go_wp2
          go_ret
          exact ⟨by rw [HN.out]; rfl, G1⟩
        have HK := Lib.hid hin
        by_cases h0 : 0 < k
        · have hj : k - 1 < x.keys.length := by omega
          have h00 : (0 : Int) < (k : Int) := by omega
          have hj0 : (0 : Int) ≤ (k : Int) - 1 := by omega
          have hj1 : (k : Int) - 1 < (x.keys.length : Int) := by omega
          obtain ⟨b', off', e, _, d0⟩ := key_cell hrw (k - 1) hj
          simp only [Option.some.injEq, Addr.mk.injEq, and_true] at e
          obtain ⟨rfl, rfl⟩ := e
          clear hrw
          by_cases hle : x.keys[k - 1] < x.keys[k]
          · have HN : Hid (kAscB (x.keys.take (k + 1)) = true) := kAsc_first hlt HO.out hin fun _ => .inr hle
            have hle' : decide (x.keys[k] ≤ x.keys[k - 1]) = false := decide_eq_false (by omega)
            clear hle hin
            go_wp2
            refine region_over (by kernel_rfl) (by kernel_rfl) ?_
            repeat (go_big_quiet_step (first | (go_at_call 52; exact quiet_over_same (bool_is HK.out (isKey_spec _ _)))))
            refine wpQuiet_nil ?_
            intro w9 hb9
            have G1 := below_after hBw hb9
            go_wp2
            have BC := BC.below hb9 BC.lt
            go_roundw
            case rel => exact ⟨k + 1, by omega, by go_num, HN.out, BC, G1⟩
            case measure => simp [intOf]; omega
          · have HN : Hid (keysS x.kind x.keys = false) := by show _ = _; rw [HR.out]; exact kAsc_worse hlt h0 hj hle
            have hle' : x.keys[k] ≤ x.keys[k - 1] := by omega
            clear hle hin
            go_wp2
            refine region_over (by kernel_rfl) (by kernel_rfl) ?_
            repeat (go_big_quiet_step (first | (go_at_call 52; exact quiet_over_same (bool_is HK.out (isKey_spec _ _)))))
            refine wpQuiet_nil ?_
            intro w9 hb9
            have G1 := below_after hBw hb9
            go_wp2
            go_ret
            exact ⟨by rw [HN.out]; rfl, G1⟩
        · have HN : Hid (kAscB (x.keys.take (k + 1)) = true) := kAsc_first hlt HO.out hin fun _ => .inl (by omega)
          have h00 : (k : Int) ≤ 0 := by omega
          clear hin hrw
          go_wp2
          refine region_over (by kernel_rfl) (by kernel_rfl) ?_
          repeat (go_big_quiet_step (first | (go_at_call 52; exact quiet_over_same (bool_is HK.out (isKey_spec _ _)))))
          refine wpQuiet_nil ?_
          intro w9 hb9
          have G1 := below_after hBw hb9
          go_wp2
          have BC := BC.below hb9 BC.lt
          go_roundw
          case rel => exact ⟨k + 1, by omega, by go_num, HN.out, BC, G1⟩
          case measure => simp [intOf]; omega
      · obtain rfl : k = x.keys.length := by omega
        have HN : Hid (keysS x.kind x.keys = true) := by show _ = _; rw [HR.out]; have := HO.out; rwa [List.take_length] at this
        obtain ⟨p0, p1, p2, p3, p4, p5, p6, p7, p8, p9, p10, p11, p12, pf, pl⟩ := BC.call
        go_wp2
        go_ret
        exact ⟨by rw [HN.out]; rfl, hBw⟩)

set_option maxHeartbeats 4000000 in
theorem l31Answer_yes (key : Int) (v : Vp) (a : Option Addr) (c : Nat) (w : World) (hd : Reads w a v.deps.length c (dpsC v.deps)) (hl : v.deps.length ≤ 1048577) :
    Calls Try.prog 89 #[.agg #[.int .i64 key, .bool true, .int .i64 v.key, .int .i64 v.time, .int .i64 v.site, .int .i64 v.val, .int .i64 v.client, .int .i64 v.call, .slice a v.deps.length c]] w (Says (verOkB v && decide (v.key = key)) w) := by
  have BA := Blk.new w #[.int .i64 key, .bool true, .int .i64 v.key, .int .i64 v.time, .int .i64 v.site, .int .i64 v.val, .int .i64 v.client, .int .i64 v.call, .slice a v.deps.length c] 114
  have G0 := below_box w (.cells #[.int .i64 key, .bool true, .int .i64 v.key, .int .i64 v.time, .int .i64 v.site, .int .i64 v.val, .int .i64 v.client, .int .i64 v.call, .slice a v.deps.length c] 114)
  obtain ⟨p0, p1, p2, p3, p4, p5, p6, p7, p8, pf, pl⟩ := BA.nine
  rcases hv : verOkB v with _ | _
  · have HV := Lib.hid hv
    clear hv
    go_enter Try.func89, Try.ntmps89
    go_wp2_with fail
    refine (bool_is HV.out (VerOk_spec v a c _ (hd.below G0) hl)).mono ?_
    rintro e w1 ⟨rfl, hb1⟩
    go_wp2
    go_ret
    exact ⟨rfl, below_after G0 hb1⟩
  · have HV := Lib.hid hv
    clear hv
    go_enter Try.func89, Try.ntmps89
    go_wp2_with fail
    refine (bool_is HV.out (VerOk_spec v a c _ (hd.below G0) hl)).mono ?_
    rintro e w1 ⟨rfl, hb1⟩
    have BA := BA.below hb1 BA.lt
    have G0 := below_after G0 hb1
    clear p0 p1 p2 p3 p4 p5 p6 p7 p8 pf pl
    obtain ⟨p0, p1, p2, p3, p4, p5, p6, p7, p8, pf, pl⟩ := BA.nine
    by_cases h : v.key = key
    · have h' : (v.key == key) = true := by simpa using h
      have HR : Hid (decide (v.key = key) = true) := by show _ = _; exact decide_eq_true h
      clear h
      go_wp2
      go_ret
      exact ⟨by rw [HR.out]; rfl, G0⟩
    · have h' : (v.key == key) = false := by simpa using h
      have HR : Hid (decide (v.key = key) = false) := by show _ = _; exact decide_eq_false h
      clear h
      go_wp2
      go_ret
      exact ⟨by rw [HR.out]; rfl, G0⟩
set_option maxHeartbeats 4000000 in
theorem l31Answer_no (key : Int) (v : Vp) (a : Option Addr) (c : Nat) (w : World) :
    Calls Try.prog 89 #[.agg #[.int .i64 key, .bool false, .int .i64 v.key, .int .i64 v.time, .int .i64 v.site, .int .i64 v.val, .int .i64 v.client, .int .i64 v.call, .slice a v.deps.length c]] w (Says (inB key 0 5 && zeroB v) w) := by
  have BA := (Blk.new w #[.int .i64 key, .bool false, .int .i64 v.key, .int .i64 v.time, .int .i64 v.site, .int .i64 v.val, .int .i64 v.client, .int .i64 v.call, .slice a v.deps.length c] 114).alloc (.cells #[.int .i64 v.key, .int .i64 v.time, .int .i64 v.site, .int .i64 v.val, .int .i64 v.client, .int .i64 v.call, .slice a v.deps.length c] 27)
  have BS := Blk.new (w.alloc (.cells #[.int .i64 key, .bool false, .int .i64 v.key, .int .i64 v.time, .int .i64 v.site, .int .i64 v.val, .int .i64 v.client, .int .i64 v.call, .slice a v.deps.length c] 114)) #[.int .i64 v.key, .int .i64 v.time, .int .i64 v.site, .int .i64 v.val, .int .i64 v.client, .int .i64 v.call, .slice a v.deps.length c] 27
  simp only [World.size_alloc] at BS
  have BA0 := Blk.new w #[.int .i64 key, .bool false, .int .i64 v.key, .int .i64 v.time, .int .i64 v.site, .int .i64 v.val, .int .i64 v.client, .int .i64 v.call, .slice a v.deps.length c] 114
  have G0 := below_box2 w (.cells #[.int .i64 key, .bool false, .int .i64 v.key, .int .i64 v.time, .int .i64 v.site, .int .i64 v.val, .int .i64 v.client, .int .i64 v.call, .slice a v.deps.length c] 114) (.cells #[.int .i64 v.key, .int .i64 v.time, .int .i64 v.site, .int .i64 v.val, .int .i64 v.client, .int .i64 v.call, .slice a v.deps.length c] 27)
  obtain ⟨r0, r1, r2, r3, r4, r5, r6, r7, r8, rf, rl⟩ := BA0.nine
  obtain ⟨p0, p1, p2, p3, p4, p5, p6, p7, p8, pf, pl⟩ := BA.nine
  obtain ⟨q0, q1, q2, q3, q4, q5, q6, qf, ql⟩ := BS.seven
  rcases hk : inB key 0 5 with _ | _
  · have HR : Hid ((false && zeroB v) = false) := rfl
    go_enter Try.func89, Try.ntmps89
    go_wp2_with (first | (go_at_call 52; refine (isKey_spec _ _).mono ?_; rintro e w' ⟨rfl, rfl⟩))
    go_ret
    exact ⟨by rw [HR.out]; rfl, G0⟩
  by_cases h0 : v.key = 0
  rotate_left
  · have h0' : (v.key == 0) = false := by simpa using h0
    have HR : Hid ((true && zeroB v) = false) := by show _ = _; simp [zeroB, h0]
    clear h0 
    go_enter Try.func89, Try.ntmps89
    go_wp2_with (first | (go_at_call 52; refine (isKey_spec _ _).mono ?_; rintro e w' ⟨rfl, rfl⟩))
    go_ret
    exact ⟨by rw [HR.out]; rfl, G0⟩
  have h0' : (v.key == 0) = true := by simpa using h0
  by_cases h1 : v.val = 0
  rotate_left
  · have h1' : (v.val == 0) = false := by simpa using h1
    have HR : Hid ((true && zeroB v) = false) := by show _ = _; simp [zeroB, h1]
    clear h1 h0
    go_enter Try.func89, Try.ntmps89
    go_wp2_with (first | (go_at_call 52; refine (isKey_spec _ _).mono ?_; rintro e w' ⟨rfl, rfl⟩))
    go_ret
    exact ⟨by rw [HR.out]; rfl, G0⟩
  have h1' : (v.val == 0) = true := by simpa using h1
  by_cases h2 : v.client = 0
  rotate_left
  · have h2' : (v.client == 0) = false := by simpa using h2
    have HR : Hid ((true && zeroB v) = false) := by show _ = _; simp [zeroB, h2]
    clear h2 h0 h1
    go_enter Try.func89, Try.ntmps89
    go_wp2_with (first | (go_at_call 52; refine (isKey_spec _ _).mono ?_; rintro e w' ⟨rfl, rfl⟩))
    go_ret
    exact ⟨by rw [HR.out]; rfl, G0⟩
  have h2' : (v.client == 0) = true := by simpa using h2
  by_cases h3 : v.call = 0
  rotate_left
  · have h3' : (v.call == 0) = false := by simpa using h3
    have HR : Hid ((true && zeroB v) = false) := by show _ = _; simp [zeroB, h3]
    clear h3 h0 h1 h2
    go_enter Try.func89, Try.ntmps89
    go_wp2_with (first | (go_at_call 52; refine (isKey_spec _ _).mono ?_; rintro e w' ⟨rfl, rfl⟩))
    go_ret
    exact ⟨by rw [HR.out]; rfl, G0⟩
  have h3' : (v.call == 0) = true := by simpa using h3
  by_cases h4 : v.time = 0
  rotate_left
  · have h4' : (v.time == 0) = false := by simpa using h4
    have HR : Hid ((true && zeroB v) = false) := by show _ = _; simp [zeroB, h4]
    clear h4 h0 h1 h2 h3
    go_enter Try.func89, Try.ntmps89
    go_wp2_with (first | (go_at_call 52; refine (isKey_spec _ _).mono ?_; rintro e w' ⟨rfl, rfl⟩))
    go_ret
    exact ⟨by rw [HR.out]; rfl, G0⟩
  have h4' : (v.time == 0) = true := by simpa using h4
  by_cases h5 : v.site = 0
  rotate_left
  · have h5' : (v.site == 0) = false := by simpa using h5
    have HR : Hid ((true && zeroB v) = false) := by show _ = _; simp [zeroB, h5]
    clear h5 h0 h1 h2 h3 h4
    go_enter Try.func89, Try.ntmps89
    go_wp2_with (first | (go_at_call 52; refine (isKey_spec _ _).mono ?_; rintro e w' ⟨rfl, rfl⟩))
    go_ret
    exact ⟨by rw [HR.out]; rfl, G0⟩
  have h5' : (v.site == 0) = true := by simpa using h5
  by_cases h6 : v.deps.length = 0
  rotate_left
  · have h6' : ((v.deps.length : Int) == 0) = false := by rw [beq_eq_false_iff_ne]; omega
    have HR : Hid ((true && zeroB v) = false) := by show _ = _; simp only [zeroB, decide_eq_false h6, Bool.and_false]
    clear h6 h0 h1 h2 h3 h4 h5
    go_enter Try.func89, Try.ntmps89
    go_wp2_with (first | (go_at_call 52; refine (isKey_spec _ _).mono ?_; rintro e w' ⟨rfl, rfl⟩))
    go_ret
    exact ⟨by rw [HR.out]; rfl, G0⟩
  have h6' : ((v.deps.length : Int) == 0) = true := by rw [beq_iff_eq]; omega
  have HR : Hid ((true && zeroB v) = true) := by show _ = _; simp [zeroB, h0, h1, h2, h3, h4, h5, h6]
  clear h6 h0 h1 h2 h3 h4 h5
  go_enter Try.func89, Try.ntmps89
  go_wp2_with (first | (go_at_call 52; refine (isKey_spec _ _).mono ?_; rintro e w' ⟨rfl, rfl⟩))
  go_ret
  exact ⟨by rw [HR.out]; rfl, G0⟩
theorem l31Answer_spec (p : Ap) (a : Option Addr) (c : Nat) (w : World) (hd : Reads w a p.v.deps.length c (dpsC p.v.deps)) (hl : p.v.deps.length ≤ 1048577) :
    Calls Try.prog 89 #[.agg #[.int .i64 p.key, .bool p.yes, .int .i64 p.v.key, .int .i64 p.v.time, .int .i64 p.v.site, .int .i64 p.v.val, .int .i64 p.v.client, .int .i64 p.v.call, .slice a p.v.deps.length c]] w (Says (answerS p) w) := by
  obtain ⟨key, yes, v⟩ := p
  rcases yes with _ | _
  · exact l31Answer_no key v a c w
  · exact l31Answer_yes key v a c w hd hl

end Go.Proofs.Ythciikogogkfcaa
