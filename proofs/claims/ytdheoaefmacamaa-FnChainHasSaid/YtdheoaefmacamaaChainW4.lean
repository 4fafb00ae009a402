/- Are all dependencies there? The program's function and the reference's. -/
import Derived.Test.YtdheoaefmacamaaChainW3
import Derived.Deep.RegionWith
namespace Go.Proofs.Ytdheoaefmacamaa
open Go.RowKit Go.Deep
set_option linter.unusedVariables false

set_option maxHeartbeats 1000000 in
theorem hasAllFn_impl (l : List Mv) (a : Option Addr) (c : Nat) (d : Dp) (B : Nat) (w : World) (hB : Blk w B #[.slice a l.length c] 23) (hvs : Vers w a c l) (hl : l.length ≤ 1048577) :
    Calls Try.prog 61 #[.agg #[.int .i64 d.1, .int .i64 d.2.1, .int .i64 d.2.2], .pointer (some ⟨B, 0, none⟩)] w fun e w' => e = .returned (.bool (!hasV (vs l) d)) ∧ Below w.heap.size w w' := by
  have G0 := below_box w (.cells #[.int .i64 d.1, .int .i64 d.2.1, .int .i64 d.2.2] 48)
  have BD := Blk.new w #[.int .i64 d.1, .int .i64 d.2.1, .int .i64 d.2.2] 48
  have ql0 := hB.lt
  have hB := hB.alloc (.cells #[.int .i64 d.1, .int .i64 d.2.1, .int .i64 d.2.2] 48)
  obtain ⟨p0, p1, p2, pf, pl⟩ := BD.three
  obtain ⟨q0, qf, ql⟩ := hB.one
  have HR := Lib.hid (placeI_neg (l := vs l) (q := d))
  go_enter Try.func61, Try.ntmps61
  go_wp2_with fail
  refine (place_impl l a c d _ (hvs.below G0) hl).mono ?_
  rintro e w1 ⟨rfl, hb1⟩
  go_wp2
  go_ret
  exact ⟨by rw [← HR.out]; rfl, below_after G0 hb1⟩

set_option maxHeartbeats 2000000 in
theorem indexFuncD_impl (l : List Mv) (a : Option Addr) (c : Nat) (d : List Dp) (ad : Option Addr) (cd : Nat) (B : Nat) (w : World) (hB : Blk w B #[.slice a l.length c] 23) (hvs : Vers w a c l) (hl : l.length ≤ 1048577) (hr : Reads w ad d.length cd (dpsC d)) :
    Calls Try.prog 69 #[.slice ad d.length cd, .func (.func 61) #[] #[.pointer (some ⟨B, 0, none⟩)]] w fun e w' => e = .returned (.int .i64 (missI (vs l) d)) ∧ Below w.heap.size w w' := by
  have eg : ∀ args w, (callFunc 61 args).run Try.prog w = .ok (.enter 61 args) w := enters_of Try.func61 (by kernel_rfl) rfl
  have hln := hr.len
  go_enter Try.func69, Try.ntmps69
  go_wp2
  go_loopw [5, 8] (fun _ i wr => ∃ k : Nat, k ≤ d.length ∧ i = .int .i64 k ∧ hasAllB (vs l) (d.take k) = true ∧ Below w.heap.size w wr) (fun _ i _ => d.length - (intOf i).toNat)
  case atStart => exact ⟨0, Nat.zero_le _, rfl, by simp [hasAllB], Below.refl _ _⟩
  case round =>
    obtain ⟨k, hk, rfl, hno, hBw⟩ := hrel
    have HO := Lib.hid hno
    clear hno
    by_cases hlt : k < d.length
    · have hr' := hr.below hBw
      have hi0 : (0 : Int) ≤ (k : Int) := by omega
      have hi1 : (k : Int) < (d.length : Int) := by omega
      obtain ⟨_, _, h3⟩ := hr'
      obtain ⟨b, off, rfl, hbl, hcell⟩ := h3 (dpsC_ne (by omega))
      obtain ⟨g0, g1, g2⟩ := dpsC_get d k hlt
      have c0 := hcell _ _ g0
      have c1 := hcell _ _ g1
      have c2 := hcell _ _ g2
      rw [← Nat.add_assoc] at c1 c2
      have HT := Lib.hid (hasAllB_take (vs l) d k hlt)
      have hcall := hasAllFn_impl l a c d[k] B wr (hB.below hBw hB.lt) (hvs.below hBw) hl
      clear hcell h3 g0 g1 g2
      rcases hh : hasV (vs l) d[k] with _ | _
      · have HN : Hid (missI (vs l) d = (k : Int)) := missI_hit hlt HO.out hh
        rw [hh] at hcall
        clear hh
        go_wp2_with (go_at_fn 61; refine hcall.mono ?_; rintro e w1 ⟨rfl, hb1⟩)
        go_ret
        exact ⟨by rw [HN.out]; rfl, below_after hBw hb1⟩
      · have HN : Hid (hasAllB (vs l) (d.take (k + 1)) = true) := by show _ = _; rw [HT.out, HO.out, hh]; rfl
        rw [hh] at hcall
        clear hh
        go_wp2_with (go_at_fn 61; refine hcall.mono ?_; rintro e w1 ⟨rfl, hb1⟩)
        go_roundw
        case rel => exact ⟨k + 1, by omega, by go_num, HN.out, below_after hBw hb1⟩
        case measure => simp [intOf]; omega
    · obtain rfl : k = d.length := by omega
      have HN : Hid (missI (vs l) d = -1) := missI_none (by have := HO.out; rwa [List.take_length] at this)
      go_wp2
      go_ret
      exact ⟨by rw [HN.out]; rfl, hBw⟩

set_option maxHeartbeats 1000000 in
theorem hasAll_impl (l : List Mv) (a : Option Addr) (c : Nat) (d : List Dp) (ad : Option Addr) (cd : Nat) (w : World) (hvs : Vers w a c l) (hl : l.length ≤ 1048577) (hr : Reads w ad d.length cd (dpsC d)) :
    Calls Try.prog 42 #[.slice a l.length c, .slice ad d.length cd] w (Says (hasAllB (vs l) d) w) := by
  have hmf : ∀ (fn : Fn) (first cap : Array Value) (w : World), (Instr.makeFunc fn first cap).run Try.prog w = .ok (.func fn first cap) w := fun _ _ _ _ => rfl
  have BD := Blk.new w #[.slice a l.length c] 23
  have G0 := below_box w (.cells #[.slice a l.length c] 23)
  have hcf : ∀ (W : World) (B : Nat), Blk W B #[.slice a l.length c] 23 → Vers W a c l → Reads W ad d.length cd (dpsC d) → Calls Try.prog 60 #[.slice ad d.length cd, .func (.func 61) #[] #[.pointer (some ⟨B, 0, none⟩)]] W fun e w' => e = .returned (.bool (decide (0 ≤ missI (vs l) d))) ∧ Below W.heap.size W w' := by
    intro W B h1 h2 h3
    go_enter Try.func60, Try.ntmps60
    go_wp2_with fail
    refine (indexFuncD_impl l a c d ad cd B _ h1 h2 hl h3).mono ?_
    rintro e w1 ⟨rfl, hb1⟩
    go_wp2
    go_ret
    exact ⟨rfl, hb1⟩
  have hca := hcf _ _ BD (hvs.below G0) (hr.below G0)
  rw [missI_ge] at hca
  clear hcf
  have HA := Lib.hid hca
  clear hca
  go_enter Try.func42, Try.ntmps42
  go_wp2_with fail
  refine HA.out.mono ?_
  rintro e w1 ⟨rfl, hb1⟩
  go_wp2
  go_ret
  exact ⟨by simp, below_after G0 hb1⟩

theorem chainHas_no1 {l : List Vp} {d : List Dp} (h : chainOkB l = false) : chainHasB l d = false := by rw [chainHasB, h]; rfl
theorem chainHas_no2 {l : List Vp} {d : List Dp} (h : depsOkB d = false) : chainHasB l d = false := by rw [chainHasB, h]; cases chainOkB l <;> rfl
theorem chainHas_ok {l : List Vp} {d : List Dp} (h : chainOkB l = true) (h2 : depsOkB d = true) : chainHasB l d = hasAllB l d := by rw [chainHasB, h, h2]; rfl
set_option maxHeartbeats 1000000 in
theorem ChainHas_impl (l : List Mv) (a : Option Addr) (c : Nat) (d : List Dp) (ad : Option Addr) (cd : Nat) (w : World) (hvs : Vers w a c l) (hf : Few l) (hr : Reads w ad d.length cd (dpsC d)) (hl : d.length ≤ 1048577) :
    Calls Try.prog 15 #[.slice a l.length c, .slice ad d.length cd] w (Says (chainHasB (vs l) d) w) := by
  go_enter Try.func15, Try.ntmps15
  go_wp2_with fail
  refine (ChainOk_impl l a c _ hvs hf).mono ?_
  rintro e w1 ⟨rfl, hb1⟩
  rcases hok : chainOkB (vs l) with _ | _
  · have HN := Lib.hid (chainHas_no1 (d := d) hok)
    go_wp2
    go_ret
    exact ⟨by rw [HN.out]; rfl, hb1⟩
  go_wp2_with fail
  refine (depsOk_impl d ad cd _ (hr.below hb1) hl).mono ?_
  rintro e w2 ⟨rfl, hb2⟩
  have G2 := below_after hb1 hb2
  rcases hod : depsOkB d with _ | _
  · have HN := Lib.hid (chainHas_no2 (l := vs l) hod)
    go_wp2
    go_ret
    exact ⟨by rw [HN.out]; rfl, G2⟩
  have HN := Lib.hid (chainHas_ok hok hod)
  go_wp2_with fail
  refine (hasAll_impl l a c d ad cd _ (hvs.below G2) hf.1 (hr.below G2)).mono ?_
  rintro e w3 ⟨rfl, hb3⟩
  go_wp2
  go_ret
  exact ⟨by rw [HN.out]; rfl, below_after G2 hb3⟩

theorem ChainAt_is (l : List Mv) (q : Dp) (a : Option Addr) (c : Nat) (w : World) (hvs : Vers w a c l) (hf : Few l) (b : Bool) (h : (atV (vs l) q).isSome = b) :
    Calls Try.prog 43 #[.slice a l.length c, .int .i64 q.1, .agg #[.int .i64 q.2.1, .int .i64 q.2.2]] w fun e w' => ∃ (v : Vp) (p : Option Addr) (cc : Nat), e = .returned (.tuple #[.agg #[.int .i64 v.key, .int .i64 v.time, .int .i64 v.site, .int .i64 v.val, .int .i64 v.client, .int .i64 v.call, .slice p v.deps.length cc], .bool b]) ∧ Below w.heap.size w w' := by
  subst h
  exact (ChainAt_spec l q a c w hvs hf).mono fun e w' ⟨p, cc, he, _, hb⟩ => ⟨_, p, cc, he, hb⟩

set_option linter.unusedSimpArgs false in
set_option maxRecDepth 100000 in
set_option maxHeartbeats 4000000 in
theorem ChainHas_spec (l : List Mv) (a : Option Addr) (c : Nat) (d : List Dp) (ad : Option Addr) (cd : Nat) (w : World) (hvs : Vers w a c l) (hf : Few l) (hr : Reads w ad d.length cd (dpsC d)) (hl : d.length ≤ 1048577) :
    Calls Try.prog 16 #[.slice a l.length c, .slice ad d.length cd] w (Says (chainHasB (vs l) d) w) := by
  go_enter Try.func16, Try.ntmps16
  go_wp2_with fail
  refine (ChainOk_spec l a c _ hvs hf).mono ?_
  rintro e w1 ⟨rfl, hb1⟩
  rcases hok : chainOkB (vs l) with _ | _
  · have HN := Lib.hid (chainHas_no1 (d := d) hok)
    go_wp2
    go_ret
    exact ⟨by rw [HN.out]; rfl, hb1⟩
  go_wp2_with fail
  refine (depsOk_spec d ad cd _ (hr.below hb1) hl).mono ?_
  rintro e w2 ⟨rfl, hb2⟩
  have G2 := below_after hb1 hb2
  rcases hod : depsOkB d with _ | _
  · have HN := Lib.hid (chainHas_no2 (l := vs l) hod)
    go_wp2
    go_ret
    exact ⟨by rw [HN.out]; rfl, G2⟩
  have HN := Lib.hid (chainHas_ok hok hod)
  have HA : Hid (∀ q, atV (vs l) q = getV (vs l) q) := fun q => atV_ok hok
  clear hok hod
  go_wp2
  go_loopw [5, 6, 7] (fun i _ _ wr => ∃ k : Nat, k ≤ d.length ∧ i = .int .i64 k ∧ hasAllB (vs l) (d.take k) = true ∧ Below w.heap.size w wr) (fun i _ _ _ => d.length - (intOf i).toNat)
  case atStart => exact ⟨0, Nat.zero_le _, rfl, by simp [hasAllB], G2⟩
  case round =>
    obtain ⟨k, hk, rfl, hno, hBw⟩ := hrel
    have HO := Lib.hid hno
    clear hno
    by_cases hlt : k < d.length
    · have hBd := hBw.drew
      have hwz := hBw.size
      have hr' := hr.below hBd
      have hi0 : (0 : Int) ≤ (k : Int) := by omega
      have hi1 : (k : Int) < (d.length : Int) := by omega
      obtain ⟨_, _, h3⟩ := hr'
      obtain ⟨b, off, rfl, hbl, hcell⟩ := h3 (dpsC_ne (by omega))
      obtain ⟨g0, g1, g2⟩ := dpsC_get d k hlt
      have c0 := hcell _ _ g0
      have c1 := hcell _ _ g1
      have c2 := hcell _ _ g2
      rw [← Nat.add_assoc] at c1 c2
      have hbl : b < wr.heap.size := hbl
      have k0 : wr.cell? ⟨b, off + k * 3, none⟩ = some (.int .i64 d[k].1) := c0
      have k1 : wr.cell? ⟨b, off + k * 3 + 1, none⟩ = some (.int .i64 d[k].2.1) := c1
      have k2 : wr.cell? ⟨b, off + k * 3 + 2, none⟩ = some (.int .i64 d[k].2.2) := c2
      have hne1 : ¬ wr.heap.size = b := by omega
      have hne2 := hne1
      have HT := Lib.hid (hasAllB_take (vs l) d k hlt)
      clear hcell h3 g0 g1 g2
      rcases hg : hasV (vs l) d[k] with _ | _
      · have HG : Hid ((atV (vs l) d[k]).isSome = false) := by show _ = _; rw [HA.out, ← hasV_get, hg]
        have HB := Lib.hid (hasAllB_bad k hlt hg)
        clear hg
        go_wp2_with fail
        go_region_with (first | (go_at_call 43; (with_reducible refine (ChainAt_is l d[k] a c wr.drew (hvs.below hBd) hf _ HG.out).mono ?_); rintro e w3 ⟨v3, p3, c3, rfl, hb⟩; obtain ⟨c0, c1, c2, hbl⟩ := cells3 hb hbl c0 c1 c2; have hBd := below_after hBd hb; have hne2 : ¬ w3.heap.size = b := by omega) | (go_at_call 43; refine (ChainAt_is l d[k] a c _ (hvs.below ((below_alloc hBw _).drew)) hf _ HG.out).mono ?_; rintro e w3 ⟨v3, p3, c3, rfl, hb⟩; obtain ⟨c0, c1, c2, hbl⟩ := cells3 (below_after ((below_box wr (.cells #[.int .i64 0, .int .i64 0, .int .i64 0, .int .i64 0, .int .i64 0, .int .i64 0, .slice none 0 0] 35)).drew) hb) hbl k0 k1 k2; have hBd := below_after ((below_alloc hBw (.cells #[.int .i64 0, .int .i64 0, .int .i64 0, .int .i64 0, .int .i64 0, .int .i64 0, .slice none 0 0] 35)).drew) hb; have BZ := (Blk.drew (Blk.new wr #[.int .i64 0, .int .i64 0, .int .i64 0, .int .i64 0, .int .i64 0, .int .i64 0, .slice none 0 0] 35)).below hb (Blk.drew (Blk.new wr #[.int .i64 0, .int .i64 0, .int .i64 0, .int .i64 0, .int .i64 0, .int .i64 0, .slice none 0 0] 35)).lt; obtain ⟨z0, z1, z2, z3, z4, z5, z6, zf, zl⟩ := BZ.seven))
        all_goals
          go_wp2
          go_ret
          exact ⟨by rw [HN.out, HB.out]; rfl, by first | (with_reducible exact below_alloc hBd _) | (with_reducible exact (below_setb (below_setb (below_setb (below_setb (below_setb (below_setb (below_setb hBd hwz _) hwz _) hwz _) hwz _) hwz _) hwz _) hwz _)) | (with_reducible exact (below_setb (below_setb (below_setb (below_setb (below_setb (below_setb (below_setb (below_alloc hBd _) (by omega) _) (by omega) _) (by omega) _) (by omega) _) (by omega) _) (by omega) _) (by omega) _))⟩
      · have HG : Hid ((atV (vs l) d[k]).isSome = true) := by show _ = _; rw [HA.out, ← hasV_get, hg]
        have HB : Hid (hasAllB (vs l) (d.take (k + 1)) = true) := by show _ = _; rw [HT.out, HO.out, hg]; rfl
        clear hg
        go_wp2_with fail
        go_region_with (first | (go_at_call 43; (with_reducible refine (ChainAt_is l d[k] a c wr.drew (hvs.below hBd) hf _ HG.out).mono ?_); rintro e w3 ⟨v3, p3, c3, rfl, hb⟩; obtain ⟨c0, c1, c2, hbl⟩ := cells3 hb hbl c0 c1 c2; have hBd := below_after hBd hb; have hne2 : ¬ w3.heap.size = b := by omega) | (go_at_call 43; refine (ChainAt_is l d[k] a c _ (hvs.below ((below_alloc hBw _).drew)) hf _ HG.out).mono ?_; rintro e w3 ⟨v3, p3, c3, rfl, hb⟩; obtain ⟨c0, c1, c2, hbl⟩ := cells3 (below_after ((below_box wr (.cells #[.int .i64 0, .int .i64 0, .int .i64 0, .int .i64 0, .int .i64 0, .int .i64 0, .slice none 0 0] 35)).drew) hb) hbl k0 k1 k2; have hBd := below_after ((below_alloc hBw (.cells #[.int .i64 0, .int .i64 0, .int .i64 0, .int .i64 0, .int .i64 0, .int .i64 0, .slice none 0 0] 35)).drew) hb; have BZ := (Blk.drew (Blk.new wr #[.int .i64 0, .int .i64 0, .int .i64 0, .int .i64 0, .int .i64 0, .int .i64 0, .slice none 0 0] 35)).below hb (Blk.drew (Blk.new wr #[.int .i64 0, .int .i64 0, .int .i64 0, .int .i64 0, .int .i64 0, .int .i64 0, .slice none 0 0] 35)).lt; obtain ⟨z0, z1, z2, z3, z4, z5, z6, zf, zl⟩ := BZ.seven))
        all_goals
          go_wp2
          go_roundw
          case rel => exact ⟨k + 1, by omega, by go_num, HB.out, by first | (with_reducible exact below_alloc hBd _) | (with_reducible exact (below_setb (below_setb (below_setb (below_setb (below_setb (below_setb (below_setb hBd hwz _) hwz _) hwz _) hwz _) hwz _) hwz _) hwz _)) | (with_reducible exact (below_setb (below_setb (below_setb (below_setb (below_setb (below_setb (below_setb (below_alloc hBd _) (by omega) _) (by omega) _) (by omega) _) (by omega) _) (by omega) _) (by omega) _) (by omega) _))⟩
          case measure => simp [intOf]; omega
    · obtain rfl : k = d.length := by omega
      have HB : Hid (hasAllB (vs l) d = true) := by have := HO.out; rwa [List.take_length] at this
      go_wp2
      go_ret
      exact ⟨by rw [HN.out, HB.out]; rfl, hBw⟩

end Go.Proofs.Ytdheoaefmacamaa
