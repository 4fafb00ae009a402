/- Are all dependencies there? The program's function and the reference's. -/
import Derived.Test.YthciikogogkfcaaChainW3
import Derived.Deep.RegionWith
namespace Go.Proofs.Ythciikogogkfcaa
open Go.RowKit Go.Deep
set_option linter.unusedVariables false

set_option maxHeartbeats 1000000 in
theorem hasAllFn_impl (l : List Mv) (a : Option Addr) (c : Nat) (d : Dp) (B : Nat) (w : World) (hB : Blk w B #[.slice a l.length c] 39) (hvs : Vers w a c l) (hl : l.length ≤ 1048577) :
    Calls Try.prog 124 #[.agg #[.int .i64 d.1, .int .i64 d.2.1, .int .i64 d.2.2], .pointer (some ⟨B, 0, none⟩)] w fun e w' => e = .returned (.bool (!hasV (vs l) d)) ∧ Below w.heap.size w w' := by
  have G0 := below_box w (.cells #[.int .i64 d.1, .int .i64 d.2.1, .int .i64 d.2.2] 32)
  have BD := Blk.new w #[.int .i64 d.1, .int .i64 d.2.1, .int .i64 d.2.2] 32
  have ql0 := hB.lt
  have hB := hB.alloc (.cells #[.int .i64 d.1, .int .i64 d.2.1, .int .i64 d.2.2] 32)
  obtain ⟨p0, p1, p2, pf, pl⟩ := BD.three
  obtain ⟨q0, qf, ql⟩ := hB.one
  have HR := Lib.hid (placeI_neg (l := vs l) (q := d))
  go_enter Try.func124, Try.ntmps124
  go_wp2_with fail
  refine (place_impl l a c d _ (hvs.below G0) hl).mono ?_
  rintro e w1 ⟨rfl, hb1⟩
  go_wp2
  go_ret
  exact ⟨by rw [← HR.out]; rfl, below_after G0 hb1⟩

set_option maxHeartbeats 2000000 in
theorem indexFuncD_impl (l : List Mv) (a : Option Addr) (c : Nat) (d : List Dp) (ad : Option Addr) (cd : Nat) (B : Nat) (w : World) (hB : Blk w B #[.slice a l.length c] 39) (hvs : Vers w a c l) (hl : l.length ≤ 1048577) (hr : Reads w ad d.length cd (dpsC d)) :
    Calls Try.prog 136 #[.slice ad d.length cd, .func (.func 124) #[] #[.pointer (some ⟨B, 0, none⟩)]] w fun e w' => e = .returned (.int .i64 (missI (vs l) d)) ∧ Below w.heap.size w w' := by
  have eg : ∀ args w, (callFunc 124 args).run Try.prog w = .ok (.enter 124 args) w := enters_of Try.func124 (by kernel_rfl) rfl
  have hln := hr.len
  go_enter Try.func136, Try.ntmps136
  go_wp2
  go_loopw [5, 8] (fun _ i wr => ∃ k : Nat, k ≤ d.length ∧ i = .int .i64 k ∧ hasAllB (vs l) (d.take k) = true ∧ Below w.heap.size w wr) (fun _ i _ => d.length - (intOf i).toNat)
  case atStart => exact ⟨0, Nat.zero_le _, rfl, by simp [hasAllB], Below.refl _ _⟩
  case round =>
    obtain ⟨k, hk, rfl, hno, hBw⟩ := hrel
    have HO := Lib.hid hno
    clear hno
    by_cases hlt : k < d.length
    · have hr' := hr.below hBw
      have hi0 : (0 : Int) ≤ (k : Int) := by omega
      have hi1 : (k : Int) < (d.length : Int) := by omega
      obtain ⟨_, _, h3⟩ := hr'
      obtain ⟨b, off, rfl, hbl, hcell⟩ := h3 (dpsC_ne (by omega))
      obtain ⟨g0, g1, g2⟩ := dpsC_get d k hlt
      have c0 := hcell _ _ g0
      have c1 := hcell _ _ g1
      have c2 := hcell _ _ g2
      rw [← Nat.add_assoc] at c1 c2
      have HT := Lib.hid (hasAllB_take (vs l) d k hlt)
      have hcall := hasAllFn_impl l a c d[k] B wr (hB.below hBw hB.lt) (hvs.below hBw) hl
      clear hcell h3 g0 g1 g2
      rcases hh : hasV (vs l) d[k] with _ | _
      · have HN : Hid (missI (vs l) d = (k : Int)) := missI_hit hlt HO.out hh
        rw [hh] at hcall
        clear hh
        go_wp2_with (go_at_fn 124; refine hcall.mono ?_; rintro e w1 ⟨rfl, hb1⟩)
        go_ret
        exact ⟨by rw [HN.out]; rfl, below_after hBw hb1⟩
      · have HN : Hid (hasAllB (vs l) (d.take (k + 1)) = true) := by show _ = _; rw [HT.out, HO.out, hh]; rfl
        rw [hh] at hcall
        clear hh
        go_wp2_with (go_at_fn 124; refine hcall.mono ?_; rintro e w1 ⟨rfl, hb1⟩)
        go_roundw
        case rel => exact ⟨k + 1, by omega, by go_num, HN.out, below_after hBw hb1⟩
        case measure => simp [intOf]; omega
    · obtain rfl : k = d.length := by omega
      have HN : Hid (missI (vs l) d = -1) := missI_none (by have := HO.out; rwa [List.take_length] at this)
      go_wp2
      go_ret
      exact ⟨by rw [HN.out]; rfl, hBw⟩

set_option maxHeartbeats 1000000 in
theorem hasAll_impl (l : List Mv) (a : Option Addr) (c : Nat) (d : List Dp) (ad : Option Addr) (cd : Nat) (w : World) (hvs : Vers w a c l) (hl : l.length ≤ 1048577) (hr : Reads w ad d.length cd (dpsC d)) :
    Calls Try.prog 82 #[.slice a l.length c, .slice ad d.length cd] w (Says (hasAllB (vs l) d) w) := by
  have hmf : ∀ (fn : Fn) (first cap : Array Value) (w : World), (Instr.makeFunc fn first cap).run Try.prog w = .ok (.func fn first cap) w := fun _ _ _ _ => rfl
  have BD := Blk.new w #[.slice a l.length c] 39
  have G0 := below_box w (.cells #[.slice a l.length c] 39)
  have hcf : ∀ (W : World) (B : Nat), Blk W B #[.slice a l.length c] 39 → Vers W a c l → Reads W ad d.length cd (dpsC d) → Calls Try.prog 123 #[.slice ad d.length cd, .func (.func 124) #[] #[.pointer (some ⟨B, 0, none⟩)]] W fun e w' => e = .returned (.bool (decide (0 ≤ missI (vs l) d))) ∧ Below W.heap.size W w' := by
    intro W B h1 h2 h3
    go_enter Try.func123, Try.ntmps123
    go_wp2_with fail
    refine (indexFuncD_impl l a c d ad cd B _ h1 h2 hl h3).mono ?_
    rintro e w1 ⟨rfl, hb1⟩
    go_wp2
    go_ret
    exact ⟨rfl, hb1⟩
  have hca := hcf _ _ BD (hvs.below G0) (hr.below G0)
  rw [missI_ge] at hca
  clear hcf
  have HA := Lib.hid hca
  clear hca
  go_enter Try.func82, Try.ntmps82
  go_wp2_with fail
  refine HA.out.mono ?_
  rintro e w1 ⟨rfl, hb1⟩
  go_wp2
  go_ret
  exact ⟨by simp, below_after G0 hb1⟩

theorem chainHas_no1 {l : List Vp} {d : List Dp} (h : chainOkB l = false) : chainHasB l d = false := by rw [chainHasB, h]; rfl
theorem chainHas_no2 {l : List Vp} {d : List Dp} (h : depsOkB d = false) : chainHasB l d = false := by rw [chainHasB, h]; cases chainOkB l <;> rfl
theorem chainHas_ok {l : List Vp} {d : List Dp} (h : chainOkB l = true) (h2 : depsOkB d = true) : chainHasB l d = hasAllB l d := by rw [chainHasB, h, h2]; rfl
theorem ChainAt_is (l : List Mv) (q : Dp) (a : Option Addr) (c : Nat) (w : World) (hvs : Vers w a c l) (hf : Few l) (b : Bool) (h : (atV (vs l) q).isSome = b) :
    Calls Try.prog 15 #[.slice a l.length c, .int .i64 q.1, .agg #[.int .i64 q.2.1, .int .i64 q.2.2]] w fun e w' => ∃ (v : Vp) (p : Option Addr) (cc : Nat), e = .returned (.tuple #[.agg #[.int .i64 v.key, .int .i64 v.time, .int .i64 v.site, .int .i64 v.val, .int .i64 v.client, .int .i64 v.call, .slice p v.deps.length cc], .bool b]) ∧ Below w.heap.size w w' := by
  subst h
  exact (ChainAt_spec l q a c w hvs hf).mono fun e w' ⟨p, cc, he, _, hb⟩ => ⟨_, p, cc, he, hb⟩

end Go.Proofs.Ythciikogogkfcaa
