/- Lists of versions: validity, and the place of a version. -/
import Derived.Test.YthciikogogkfcaaChainP
import Derived.Test.YthciikogogkfcaaVerW
import Derived.Shelf.Abstract
namespace Go.Proofs.Ythciikogogkfcaa
open Go.RowKit Go.Deep
set_option linter.unusedVariables false

set_option maxHeartbeats 1000000 in
theorem dep_impl (k t s va cl ca : Int) (A : Option Addr) (n c : Nat) (w : World) :
    Calls Try.prog 81 #[.agg #[.int .i64 k, .int .i64 t, .int .i64 s, .int .i64 va, .int .i64 cl, .int .i64 ca, .slice A n c]] w fun e w' => e = .returned (.agg #[.int .i64 k, .int .i64 t, .int .i64 s]) ∧ Below w.heap.size w w' := by
  have G0 := below_box2 w (.cells #[.int .i64 k, .int .i64 t, .int .i64 s, .int .i64 va, .int .i64 cl, .int .i64 ca, .slice A n c] 27) (.cells #[.int .i64 k, .int .i64 t, .int .i64 s] 32)
  go_enter Try.func81, Try.ntmps81
  go_wp2
  exact bodyPost_ret (v := .agg #[.int .i64 k, .int .i64 t, .int .i64 s]) (by simp [results, Try.results81, go_sem, *]) rfl ⟨rfl, G0⟩

set_option maxHeartbeats 1000000 in
theorem depLess_impl (k t s k' t' s' : Int) (w : World) :
    Calls Try.prog 114 #[.agg #[.int .i64 k, .int .i64 t, .int .i64 s], .agg #[.int .i64 k', .int .i64 t', .int .i64 s']] w fun e w' => e = .returned (.bool (depLessB k t s k' t' s')) ∧ Below w.heap.size w w' := by
  have G0 := below_box2 w (.cells #[.int .i64 k, .int .i64 t, .int .i64 s] 32) (.cells #[.int .i64 k', .int .i64 t', .int .i64 s'] 32)
  have B1 := (Blk.new w #[.int .i64 k, .int .i64 t, .int .i64 s] 32).alloc (.cells #[.int .i64 k', .int .i64 t', .int .i64 s'] 32)
  have B2 := Blk.new (w.alloc (.cells #[.int .i64 k, .int .i64 t, .int .i64 s] 32)) #[.int .i64 k', .int .i64 t', .int .i64 s'] 32
  simp only [World.size_alloc] at B2
  by_cases h1 : k < k'
  · have HR : Hid (depLessB k t s k' t' s' = true) := by show _ = _; simp [depLessB, h1]
    have hd : decide (k < k') = true := by simpa using h1
    clear h1
    go_enter Try.func114, Try.ntmps114
    go_wp2
    go_ret
    exact ⟨by rw [HR.out]; rfl, G0⟩
  · have hd : decide (k < k') = false := by simpa using h1
    by_cases h2 : k = k'
    · have HR : Hid (depLessB k t s k' t' s' = stampLessB t s t' s') := by show _ = _; simp [depLessB, h2]
      have h2' : (k == k') = true := by simpa using h2
      clear h1 h2
      go_enter Try.func114, Try.ntmps114
      go_wp2_with fail
      refine (stampLess_impl _ _ _ _ _).mono ?_
      rintro e w1 ⟨rfl, hb1⟩
      go_wp2
      go_ret
      exact ⟨by rw [HR.out]; rfl, below_after G0 hb1⟩
    · have HR : Hid (depLessB k t s k' t' s' = false) := by show _ = _; simp [depLessB, h1, h2]
      have h2' : (k == k') = false := by simpa using h2
      clear h1 h2
      go_enter Try.func114, Try.ntmps114
      go_wp2
      go_ret
      exact ⟨by rw [HR.out]; rfl, G0⟩

set_option maxHeartbeats 1000000 in
theorem l3Less_spec (k t s va cl ca : Int) (A : Option Addr) (n c : Nat) (k' t' s' va' cl' ca' : Int) (A' : Option Addr) (n' c' : Nat) (w : World) :
    Calls Try.prog 111 #[.agg #[.int .i64 k, .int .i64 t, .int .i64 s, .int .i64 va, .int .i64 cl, .int .i64 ca, .slice A n c], .agg #[.int .i64 k', .int .i64 t', .int .i64 s', .int .i64 va', .int .i64 cl', .int .i64 ca', .slice A' n' c']] w fun e w' => e = .returned (.bool (depLessB k t s k' t' s')) ∧ Below w.heap.size w w' := by
  have G0 := below_box2 w (.cells #[.int .i64 k, .int .i64 t, .int .i64 s, .int .i64 va, .int .i64 cl, .int .i64 ca, .slice A n c] 27) (.cells #[.int .i64 k', .int .i64 t', .int .i64 s', .int .i64 va', .int .i64 cl', .int .i64 ca', .slice A' n' c'] 27)
  have B1 := (Blk.new w #[.int .i64 k, .int .i64 t, .int .i64 s, .int .i64 va, .int .i64 cl, .int .i64 ca, .slice A n c] 27).alloc (.cells #[.int .i64 k', .int .i64 t', .int .i64 s', .int .i64 va', .int .i64 cl', .int .i64 ca', .slice A' n' c'] 27)
  have B2 := Blk.new (w.alloc (.cells #[.int .i64 k, .int .i64 t, .int .i64 s, .int .i64 va, .int .i64 cl, .int .i64 ca, .slice A n c] 27)) #[.int .i64 k', .int .i64 t', .int .i64 s', .int .i64 va', .int .i64 cl', .int .i64 ca', .slice A' n' c'] 27
  simp only [World.size_alloc] at B2
  by_cases h1 : k < k'
  · have HR : Hid (depLessB k t s k' t' s' = true) := by show _ = _; simp [depLessB, h1]
    have hd : decide (k < k') = true := by simpa using h1
    clear h1
    go_enter Try.func111, Try.ntmps111
    go_wp2
    go_ret
    exact ⟨by rw [HR.out]; rfl, G0⟩
  · have hd : decide (k < k') = false := by simpa using h1
    by_cases h2 : k = k'
    · have HR : Hid (depLessB k t s k' t' s' = stampLessB t s t' s') := by show _ = _; simp [depLessB, h2]
      have h2' : (k == k') = true := by simpa using h2
      clear h1 h2
      go_enter Try.func111, Try.ntmps111
      go_wp2_with fail
      refine (stampLess_spec _ _ _ _ _).mono ?_
      rintro e w1 ⟨rfl, hb1⟩
      go_wp2
      go_ret
      exact ⟨by rw [HR.out]; rfl, below_after G0 hb1⟩
    · have HR : Hid (depLessB k t s k' t' s' = false) := by show _ = _; simp [depLessB, h1, h2]
      have h2' : (k == k') = false := by simpa using h2
      clear h1 h2
      go_enter Try.func111, Try.ntmps111
      go_wp2
      go_ret
      exact ⟨by rw [HR.out]; rfl, G0⟩

/-- Each version's dependencies are no more than can be counted. -/
def Few (l : List Mv) : Prop := l.length ≤ 1048577 ∧ ∀ m ∈ l, m.v.deps.length ≤ 1048577
theorem Few.get {l : List Mv} (h : Few l) (k : Nat) (hk : k < l.length) : l[k].v.deps.length ≤ 1048577 := h.2 _ (List.getElem_mem hk)
theorem chB_takeM (l : List Mv) (k : Nat) (h : k < l.length) : chB ((vs l).take (k + 1)) = (chB ((vs l).take k) && (verOkB l[k].v && (decide (k = 0) || depLessB (l[k - 1]'(by omega)).v.key (l[k - 1]'(by omega)).v.time (l[k - 1]'(by omega)).v.site l[k].v.key l[k].v.time l[k].v.site))) := by
  rw [chB_take (vs l) k (by rw [vs_len]; exact h), vs_get l k h, vs_get l (k - 1) (by omega), vLess_dep]

set_option maxHeartbeats 4000000 in
theorem ChainOk_impl (l : List Mv) (a : Option Addr) (c : Nat) (w : World) (hvs : Vers w a c l) (hf : Few l) :
    Calls Try.prog 61 #[.slice a l.length c] w (Says (chainOkB (vs l)) w) := by
  have hf1 := hf.1
  go_enter Try.func61, Try.ntmps61
  go_wp2
  go_loopw [7] (fun i wr => ∃ k : Nat, k ≤ l.length ∧ i = .int .i64 k ∧ chB ((vs l).take k) = true ∧ Below w.heap.size w wr) (fun i _ => l.length - (intOf i).toNat)
  case atStart => exact ⟨0, Nat.zero_le _, rfl, rfl, Below.refl _ _⟩
  case round =>
    obtain ⟨k, hk, rfl, hok, hBw⟩ := hrel
    have HO := Lib.hid hok
    clear hok
    by_cases hlt : k < l.length
    · have hv := hvs.below hBw
      have HT := Lib.hid (chB_takeM l k hlt)
      have hi0 : (0 : Int) ≤ (k : Int) := by omega
      have hi1 : (k : Int) < (l.length : Int) := by omega
      have hdk := hv.get k hlt
      have hfk := hf.get k hlt
      obtain ⟨b', off', hab', hbl', y0, y1, y2, y3, y4, y5, y6⟩ := hv.at_ k hlt
      have hab2 := hab'
      subst hab2
      have hdk := hdk.alloc (.cells #[.int .i64 l[k].v.key, .int .i64 l[k].v.time, .int .i64 l[k].v.site, .int .i64 l[k].v.val, .int .i64 l[k].v.client, .int .i64 l[k].v.call, .slice l[k].a l[k].v.deps.length l[k].c] 27)
      have hv := hv.alloc (.cells #[.int .i64 l[k].v.key, .int .i64 l[k].v.time, .int .i64 l[k].v.site, .int .i64 l[k].v.val, .int .i64 l[k].v.client, .int .i64 l[k].v.call, .slice l[k].a l[k].v.deps.length l[k].c] 27)
      have BE := Blk.new wr #[.int .i64 l[k].v.key, .int .i64 l[k].v.time, .int .i64 l[k].v.site, .int .i64 l[k].v.val, .int .i64 l[k].v.client, .int .i64 l[k].v.call, .slice l[k].a l[k].v.deps.length l[k].c] 27
      obtain ⟨q0, q1, q2, q3, q4, q5, q6, qf, ql⟩ := BE.seven
      have G0 := below_alloc hBw (.cells #[.int .i64 l[k].v.key, .int .i64 l[k].v.time, .int .i64 l[k].v.site, .int .i64 l[k].v.val, .int .i64 l[k].v.client, .int .i64 l[k].v.call, .slice l[k].a l[k].v.deps.length l[k].c] 27)
      clear hab'
      rcases hvk : verOkB l[k].v with _ | _
      · have HN : Hid (chainOkB (vs l) = false) := chainOk_no (chB_bad _ (k + 1) (by rw [HT.out, HO.out, hvk]; rfl))
        go_wp2
        refine region_over (by kernel_rfl) (by kernel_rfl) ?_
        repeat (go_big_quiet_step (first | (go_at_call 11; exact quiet_over (bool_is hvk (VerOk_impl l[k].v l[k].a l[k].c _ (hdk.below (over_below _ _)) hfk)))))
        refine wpQuiet_nil ?_
        intro w9 hb9
        have G1 := below_after G0 hb9
        go_wp2
        go_ret
        exact ⟨by rw [HN.out]; rfl, G1⟩
      by_cases h0 : 0 < k
      · have h00 : (0 : Int) < (k : Int) := by omega
        have hj0 : (0 : Int) ≤ (k : Int) - 1 := by omega
        have hj1 : (k : Int) - 1 < (l.length : Int) := by omega
        obtain ⟨b2, off2, hab2, hbl2, d0, d1, d2, d3, d4, d5, d6⟩ := hv.at_ (k - 1) (by omega)
        simp only [Option.some.injEq, Addr.mk.injEq, and_true] at hab2
        obtain ⟨rfl, rfl⟩ := hab2
        rcases hls : depLessB (l[k - 1]'(by omega)).v.key (l[k - 1]'(by omega)).v.time (l[k - 1]'(by omega)).v.site l[k].v.key l[k].v.time l[k].v.site with _ | _
        · have HN : Hid (chainOkB (vs l) = false) := chainOk_no (chB_bad _ (k + 1) (by rw [HT.out, HO.out, hvk, hls, decide_eq_false (by omega)]; rfl))
          go_wp2
          refine region_over (by kernel_rfl) (by kernel_rfl) ?_
          repeat (go_big_quiet_step (first | (go_at_call 11; exact quiet_over (bool_is hvk (VerOk_impl l[k].v l[k].a l[k].c _ (hdk.below (over_below _ _)) hfk))) | (go_at_call 81; exact quiet_over (dep_impl _ _ _ _ _ _ _ _ _ _)) | (go_at_call 114; exact quiet_over (bool_is hls (depLess_impl _ _ _ _ _ _ _)))))
          refine wpQuiet_nil ?_
          intro w9 hb9
          have G1 := below_after G0 hb9
          go_wp2
          go_ret
          exact ⟨by rw [HN.out]; rfl, G1⟩
        · have HN : Hid (chB ((vs l).take (k + 1)) = true) := by show _ = _; rw [HT.out, HO.out, hvk, hls, Bool.or_true]; rfl
          go_wp2
          refine region_over (by kernel_rfl) (by kernel_rfl) ?_
          repeat (go_big_quiet_step (first | (go_at_call 11; exact quiet_over (bool_is hvk (VerOk_impl l[k].v l[k].a l[k].c _ (hdk.below (over_below _ _)) hfk))) | (go_at_call 81; exact quiet_over (dep_impl _ _ _ _ _ _ _ _ _ _)) | (go_at_call 114; exact quiet_over (bool_is hls (depLess_impl _ _ _ _ _ _ _)))))
          refine wpQuiet_nil ?_
          intro w9 hb9
          have G1 := below_after G0 hb9
          go_wp2
          go_roundw
          case rel => exact ⟨k + 1, by omega, by go_num, HN.out, G1⟩
          case measure => simp [intOf]; omega
      · have h00 : (k : Int) ≤ 0 := by omega
        have HN : Hid (chB ((vs l).take (k + 1)) = true) := by show _ = _; rw [HT.out, HO.out, hvk, decide_eq_true (by omega)]; rfl
        go_wp2
        refine region_over (by kernel_rfl) (by kernel_rfl) ?_
        repeat (go_big_quiet_step (first | (go_at_call 11; exact quiet_over (bool_is hvk (VerOk_impl l[k].v l[k].a l[k].c _ (hdk.below (over_below _ _)) hfk)))))
        refine wpQuiet_nil ?_
        intro w9 hb9
        have G1 := below_after G0 hb9
        go_wp2
        go_roundw
        case rel => exact ⟨k + 1, by omega, by go_num, HN.out, G1⟩
        case measure => simp [intOf]; omega
    · obtain rfl : k = l.length := by omega
      have HO : Hid (chB (vs l) = true) := by
        have := HO.out
        rwa [← vs_len l, List.take_length] at this
      by_cases hlong : (l.length : Int) ≤ 80
      · have HN := Lib.hid (chainOk_yes HO.out (by rw [vs_len]; omega))
        go_wp2
        go_ret
        exact ⟨by rw [HN.out]; rfl, hBw⟩
      · have HN := Lib.hid (chainOk_long (l := vs l) (by rw [vs_len]; omega))
        have hlong' : decide ((l.length : Int) ≤ 80) = false := decide_eq_false hlong
        clear hlong
        go_wp2
        go_ret
        exact ⟨by rw [HN.out]; rfl, hBw⟩

set_option maxHeartbeats 4000000 in
theorem ChainOk_spec (l : List Mv) (a : Option Addr) (c : Nat) (w : World) (hvs : Vers w a c l) (hf : Few l) :
    Calls Try.prog 57 #[.slice a l.length c] w (Says (chainOkB (vs l)) w) := by
  have hf1 := hf.1
  by_cases hlong : (80 : Int) < (l.length : Int)
  · have HN := Lib.hid (chainOk_long (l := vs l) (by rw [vs_len]; omega))
    go_enter Try.func57, Try.ntmps57
    go_wp2
    go_ret
    exact ⟨by rw [HN.out]; rfl, Below.refl _ _⟩
  have hshort : (l.length : Int) ≤ 80 := by omega
  clear hlong
  go_enter Try.func57, Try.ntmps57
  go_wp2
  go_loopw [3] (fun i wr => ∃ k : Nat, k ≤ l.length ∧ i = .int .i64 k ∧ chB ((vs l).take k) = true ∧ Below w.heap.size w wr) (fun i _ => l.length - (intOf i).toNat)
  case atStart => exact ⟨0, Nat.zero_le _, rfl, rfl, Below.refl _ _⟩
  case round =>
    obtain ⟨k, hk, rfl, hok, hBw⟩ := hrel
    have HO := Lib.hid hok
    clear hok
    by_cases hlt : k < l.length
    · have hv := hvs.below hBw
      have HT := Lib.hid (chB_takeM l k hlt)
      have hi0 : (0 : Int) ≤ (k : Int) := by omega
      have hi1 : (k : Int) < (l.length : Int) := by omega
      have hdk := hv.get k hlt
      have hfk := hf.get k hlt
      have G0 := hBw
      obtain ⟨b, off, hab, hbl, c0, c1, c2, c3, c4, c5, c6⟩ := hv.at_ k hlt
      subst hab
      rcases hvk : verOkB l[k].v with _ | _
      · have HN : Hid (chainOkB (vs l) = false) := chainOk_no (chB_bad _ (k + 1) (by rw [HT.out, HO.out, hvk]; rfl))
        go_wp2
        refine region_over (by kernel_rfl) (by kernel_rfl) ?_
        repeat (go_big_quiet_step (first | (go_at_call 12; exact quiet_over (bool_is hvk (VerOk_spec l[k].v l[k].a l[k].c _ (hdk.below (over_below _ _)) hfk)))))
        refine wpQuiet_nil ?_
        intro w9 hb9
        have G1 := below_after G0 hb9
        go_wp2
        go_ret
        exact ⟨by rw [HN.out]; rfl, G1⟩
      by_cases h0 : 0 < k
      · have h00 : (0 : Int) < (k : Int) := by omega
        have hj0 : (0 : Int) ≤ (k : Int) - 1 := by omega
        have hj1 : (k : Int) - 1 < (l.length : Int) := by omega
        obtain ⟨b2, off2, hab2, hbl2, d0, d1, d2, d3, d4, d5, d6⟩ := hv.at_ (k - 1) (by omega)
        simp only [Option.some.injEq, Addr.mk.injEq, and_true] at hab2
        obtain ⟨rfl, rfl⟩ := hab2
        rcases hls : depLessB (l[k - 1]'(by omega)).v.key (l[k - 1]'(by omega)).v.time (l[k - 1]'(by omega)).v.site l[k].v.key l[k].v.time l[k].v.site with _ | _
        · have HN : Hid (chainOkB (vs l) = false) := chainOk_no (chB_bad _ (k + 1) (by rw [HT.out, HO.out, hvk, hls, decide_eq_false (by omega)]; rfl))
          go_wp2
          refine region_over (by kernel_rfl) (by kernel_rfl) ?_
          repeat (go_big_quiet_step (first | (go_at_call 12; exact quiet_over (bool_is hvk (VerOk_spec l[k].v l[k].a l[k].c _ (hdk.below (over_below _ _)) hfk))) | (go_at_call 111; exact quiet_over (bool_is hls (l3Less_spec _ _ _ _ _ _ _ _ _ _ _ _ _ _ _ _ _ _ _)))))
          refine wpQuiet_nil ?_
          intro w9 hb9
          have G1 := below_after G0 hb9
          go_wp2
          go_ret
          exact ⟨by rw [HN.out]; rfl, G1⟩
        · have HN : Hid (chB ((vs l).take (k + 1)) = true) := by show _ = _; rw [HT.out, HO.out, hvk, hls, Bool.or_true]; rfl
          go_wp2
          refine region_over (by kernel_rfl) (by kernel_rfl) ?_
          repeat (go_big_quiet_step (first | (go_at_call 12; exact quiet_over (bool_is hvk (VerOk_spec l[k].v l[k].a l[k].c _ (hdk.below (over_below _ _)) hfk))) | (go_at_call 111; exact quiet_over (bool_is hls (l3Less_spec _ _ _ _ _ _ _ _ _ _ _ _ _ _ _ _ _ _ _)))))
          refine wpQuiet_nil ?_
          intro w9 hb9
          have G1 := below_after G0 hb9
          go_wp2
          go_roundw
          case rel => exact ⟨k + 1, by omega, by go_num, HN.out, G1⟩
          case measure => simp [intOf]; omega
      · have h00 : (k : Int) ≤ 0 := by omega
        have HN : Hid (chB ((vs l).take (k + 1)) = true) := by show _ = _; rw [HT.out, HO.out, hvk, decide_eq_true (by omega)]; rfl
        go_wp2
        refine region_over (by kernel_rfl) (by kernel_rfl) ?_
        repeat (go_big_quiet_step (first | (go_at_call 12; exact quiet_over (bool_is hvk (VerOk_spec l[k].v l[k].a l[k].c _ (hdk.below (over_below _ _)) hfk)))))
        refine wpQuiet_nil ?_
        intro w9 hb9
        have G1 := below_after G0 hb9
        go_wp2
        go_roundw
        case rel => exact ⟨k + 1, by omega, by go_num, HN.out, G1⟩
        case measure => simp [intOf]; omega
    · obtain rfl : k = l.length := by omega
      have HO : Hid (chB (vs l) = true) := by
        have := HO.out
        rwa [← vs_len l, List.take_length] at this
      have HN := Lib.hid (chainOk_yes HO.out (by rw [vs_len]; omega))
      go_wp2
      go_ret
      exact ⟨by rw [HN.out]; rfl, hBw⟩

end Go.Proofs.Ythciikogogkfcaa
