/- Where a version stands, what has its dependencies: the program's functions and the reference's. -/
import Derived.Test.YthciikogogkfcaaChainW
import Derived.Test.YthciikogogkfcaaConvV
import Derived.Test.YthciikogogkfcaaPutW2
import Derived.Deep.RegionHeld3
namespace Go.Proofs.Ythciikogogkfcaa
open Go.RowKit Go.Deep
set_option linter.unusedVariables false

def isB (k t s : Int) (q : Dp) : Bool := decide (k = q.1) && (decide (t = q.2.1) && decide (s = q.2.2))

set_option maxHeartbeats 2000000 in
theorem placeFn_impl (k t s va cl ca : Int) (A : Option Addr) (n c : Nat) (q : Dp) (B : Nat) (w : World) (hB : Blk w B #[.int .i64 q.1, .int .i64 q.2.1, .int .i64 q.2.2] 32) :
    Calls Try.prog 113 #[.agg #[.int .i64 k, .int .i64 t, .int .i64 s, .int .i64 va, .int .i64 cl, .int .i64 ca, .slice A n c], .pointer (some ⟨B, 0, none⟩)] w fun e w' => e = .returned (.bool (isB k t s q)) ∧ Below w.heap.size w w' := by
  have G0 := below_box w (.cells #[.int .i64 k, .int .i64 t, .int .i64 s, .int .i64 va, .int .i64 cl, .int .i64 ca, .slice A n c] 27)
  have BV := Blk.new w #[.int .i64 k, .int .i64 t, .int .i64 s, .int .i64 va, .int .i64 cl, .int .i64 ca, .slice A n c] 27
  have ql0 := hB.lt
  have ql1 : B < w.heap.size + 1 := by omega
  have hB := hB.alloc (.cells #[.int .i64 k, .int .i64 t, .int .i64 s, .int .i64 va, .int .i64 cl, .int .i64 ca, .slice A n c] 27)
  obtain ⟨p0, p1, p2, p3, p4, p5, p6, pf, pl⟩ := BV.seven
  obtain ⟨q0, q1, q2, qf, ql⟩ := hB.three
  by_cases h1 : k = q.1
  · have h1' : (k == q.1) = true := by simpa using h1
    by_cases h2 : t = q.2.1
    · have h2' : (t == q.2.1) = true := by simpa using h2
      by_cases h3 : s = q.2.2
      · have h3' : (s == q.2.2) = true := by simpa using h3
        have HR : Hid (isB k t s q = true) := by show _ = _; simp [isB, h1, h2, h3]
        clear h1 h2 h3
        go_enter Try.func113, Try.ntmps113
        go_wp2
        refine region_over (by kernel_rfl) (by kernel_rfl) ?_
        repeat (go_big_quiet_step (first | (go_at_call 81; exact quiet_over (dep_impl _ _ _ _ _ _ _ _ _ _))))
        refine wpQuiet_nil ?_
        intro w9 hb9
        go_wp2
        go_ret
        exact ⟨by rw [HR.out]; rfl, below_after G0 hb9⟩
      · have h3' : (s == q.2.2) = false := by simpa using h3
        have HR : Hid (isB k t s q = false) := by show _ = _; simp [isB, h3]
        clear h1 h2 h3
        go_enter Try.func113, Try.ntmps113
        go_wp2
        refine region_over (by kernel_rfl) (by kernel_rfl) ?_
        repeat (go_big_quiet_step (first | (go_at_call 81; exact quiet_over (dep_impl _ _ _ _ _ _ _ _ _ _))))
        refine wpQuiet_nil ?_
        intro w9 hb9
        go_wp2
        go_ret
        exact ⟨by rw [HR.out]; rfl, below_after G0 hb9⟩
    · have h2' : (t == q.2.1) = false := by simpa using h2
      have HR : Hid (isB k t s q = false) := by show _ = _; simp [isB, h2]
      clear h1 h2
      go_enter Try.func113, Try.ntmps113
      go_wp2
      refine region_over (by kernel_rfl) (by kernel_rfl) ?_
      repeat (go_big_quiet_step (first | (go_at_call 81; exact quiet_over (dep_impl _ _ _ _ _ _ _ _ _ _))))
      refine wpQuiet_nil ?_
      intro w9 hb9
      go_wp2
      go_ret
      exact ⟨by rw [HR.out]; rfl, below_after G0 hb9⟩
  · have h1' : (k == q.1) = false := by simpa using h1
    have HR : Hid (isB k t s q = false) := by show _ = _; simp [isB, h1]
    clear h1
    go_enter Try.func113, Try.ntmps113
    go_wp2
    refine region_over (by kernel_rfl) (by kernel_rfl) ?_
    repeat (go_big_quiet_step (first | (go_at_call 81; exact quiet_over (dep_impl _ _ _ _ _ _ _ _ _ _))))
    refine wpQuiet_nil ?_
    intro w9 hb9
    go_wp2
    go_ret
    exact ⟨by rw [HR.out]; rfl, below_after G0 hb9⟩

theorem isB_V (v : Vp) (q : Dp) : isB v.key v.time v.site q = isV v q := rfl
set_option maxHeartbeats 2000000 in
theorem indexFunc_impl (l : List Mv) (a : Option Addr) (c : Nat) (q : Dp) (B : Nat) (w : World) (hvs : Vers w a c l) (hl : l.length ≤ 1048577) (hB : Blk w B #[.int .i64 q.1, .int .i64 q.2.1, .int .i64 q.2.2] 32) :
    Calls Try.prog 112 #[.slice a l.length c, .func (.func 113) #[] #[.pointer (some ⟨B, 0, none⟩)]] w fun e w' => e = .returned (.int .i64 (placeI (vs l) q)) ∧ Below w.heap.size w w' := by
  have eg : ∀ args w, (callFunc 113 args).run Try.prog w = .ok (.enter 113 args) w := enters_of Try.func113 (by kernel_rfl) rfl
  go_enter Try.func112, Try.ntmps112
  go_wp2
  go_loopw [5, 8] (fun _ i wr => ∃ k : Nat, k ≤ l.length ∧ i = .int .i64 k ∧ (∀ v ∈ (vs l).take k, isV v q = false) ∧ Below w.heap.size w wr) (fun _ i _ => l.length - (intOf i).toNat)
  case atStart => exact ⟨0, Nat.zero_le _, rfl, by simp, Below.refl _ _⟩
  case round =>
    obtain ⟨k, hk, rfl, hno, hBw⟩ := hrel
    have HO := Lib.hid hno
    clear hno
    by_cases hlt : k < l.length
    · have hv := hvs.below hBw
      have hi0 : (0 : Int) ≤ (k : Int) := by omega
      have hi1 : (k : Int) < (l.length : Int) := by omega
      obtain ⟨b, off, hab, hbl, c0, c1, c2, c3, c4, c5, c6⟩ := hv.at_ k hlt
      subst hab
      have hcall := (placeFn_impl _ _ _ _ _ _ _ _ _ q B _ (hB.below hBw hB.lt)) |> (fun (h : Calls Try.prog 113 #[.agg #[.int .i64 l[k].v.key, .int .i64 l[k].v.time, .int .i64 l[k].v.site, .int .i64 l[k].v.val, .int .i64 l[k].v.client, .int .i64 l[k].v.call, .slice l[k].a l[k].v.deps.length l[k].c], .pointer (some ⟨B, 0, none⟩)] wr _) => h)
      rcases his : isB l[k].v.key l[k].v.time l[k].v.site q with _ | _
      · have HN : Hid (∀ v ∈ (vs l).take (k + 1), isV v q = false) := noneV_take (by rw [vs_len]; exact hlt) HO.out (by rw [vs_get l k hlt]; exact his)
        rw [his] at hcall
        clear his
        go_wp2_with (go_at_fn 113; refine hcall.mono ?_; rintro e w1 ⟨rfl, hb1⟩)
        go_roundw
        case rel => exact ⟨k + 1, by omega, by go_num, HN.out, below_after hBw hb1⟩
        case measure => simp [intOf]; omega
      · have HN : Hid (placeI (vs l) q = (k : Int)) := placeI_hit (by rw [vs_len]; exact hlt) HO.out (by rw [vs_get l k hlt]; exact his)
        rw [his] at hcall
        clear his
        go_wp2_with (go_at_fn 113; refine hcall.mono ?_; rintro e w1 ⟨rfl, hb1⟩)
        go_ret
        exact ⟨by rw [HN.out]; rfl, below_after hBw hb1⟩
    · obtain rfl : k = l.length := by omega
      have HN : Hid (placeI (vs l) q = -1) := placeI_miss (by have := HO.out; rwa [← vs_len l, List.take_length] at this)
      go_wp2
      go_ret
      exact ⟨by rw [HN.out]; rfl, hBw⟩

set_option maxHeartbeats 1000000 in
theorem place_impl (l : List Mv) (a : Option Addr) (c : Nat) (q : Dp) (w : World) (hvs : Vers w a c l) (hl : l.length ≤ 1048577) :
    Calls Try.prog 60 #[.slice a l.length c, .agg #[.int .i64 q.1, .int .i64 q.2.1, .int .i64 q.2.2]] w fun e w' => e = .returned (.int .i64 (placeI (vs l) q)) ∧ Below w.heap.size w w' := by
  have hmf : ∀ (fn : Fn) (first cap : Array Value) (w : World), (Instr.makeFunc fn first cap).run Try.prog w = .ok (.func fn first cap) w := fun _ _ _ _ => rfl
  have BD := Blk.new w #[.int .i64 q.1, .int .i64 q.2.1, .int .i64 q.2.2] 32
  have G0 := below_box w (.cells #[.int .i64 q.1, .int .i64 q.2.1, .int .i64 q.2.2] 32)
  go_enter Try.func60, Try.ntmps60
  go_wp2_with fail
  refine (indexFunc_impl l a c q w.heap.size _ (hvs.below G0) hl BD).mono ?_
  rintro e w1 ⟨rfl, hb1⟩
  go_wp2
  go_ret
  exact ⟨rfl, below_after G0 hb1⟩

set_option maxRecDepth 100000 in
set_option maxHeartbeats 2000000 in
theorem clone_impl (v : Vp) (a : Option Addr) (c : Nat) (w : World) (hd : Reads w a v.deps.length c (dpsC v.deps)) (hl : v.deps.length ≤ 1048577) :
    Calls Try.prog 62 #[.agg #[.int .i64 v.key, .int .i64 v.time, .int .i64 v.site, .int .i64 v.val, .int .i64 v.client, .int .i64 v.call, .slice a v.deps.length c]] w (GivesVer v w) := by
  obtain ⟨i0, hi, hz0, hz1, hz2⟩ := info_parts infoDep
  have C1 := (Blk.new w #[.int .i64 v.key, .int .i64 v.time, .int .i64 v.site, .int .i64 v.val, .int .i64 v.client, .int .i64 v.call, .slice a v.deps.length c] 27).alloc (.cells #[.int .i64 0, .int .i64 0, .int .i64 0, .int .i64 0, .int .i64 0, .int .i64 0, .slice none 0 0] 27)
  have C2 := Blk.new (w.alloc (.cells #[.int .i64 v.key, .int .i64 v.time, .int .i64 v.site, .int .i64 v.val, .int .i64 v.client, .int .i64 v.call, .slice a v.deps.length c] 27)) #[.int .i64 0, .int .i64 0, .int .i64 0, .int .i64 0, .int .i64 0, .int .i64 0, .slice none 0 0] 27
  simp only [World.size_alloc] at C2
  have G0 := below_box2 w (.cells #[.int .i64 v.key, .int .i64 v.time, .int .i64 v.site, .int .i64 v.val, .int .i64 v.client, .int .i64 v.call, .slice a v.deps.length c] 27) (.cells #[.int .i64 0, .int .i64 0, .int .i64 0, .int .i64 0, .int .i64 0, .int .i64 0, .slice none 0 0] 27)
  go_enter Try.func62, Try.ntmps62
  go_wp2_with fail
  refine (cloneDeps_impl v.deps a c _ (hd.below G0) hl).mono ?_
  rintro e w2 ⟨u, rfl, own, hb2⟩
  have hb2 := hb2
  obtain ⟨p, cc, rfl, rd⟩ := Reads.of_owns own
  have n1 : w.heap.size + 1 ≠ w.heap.size := by omega
  have C1 := C1.below hb2 (by first | exact C1.lt | omega)
  have C2 := C2.below hb2 (by first | exact C2.lt | omega)
  have G1 := G0.trans (hb2.mono (by first | exact G0.size | omega))
  have own := own_base own (show w.heap.size + 1 + 1 ≤ _ by simp)
  obtain ⟨y0, y1, y2, y3, y4, y5, y6, yf, yl⟩ := C1.seven
  obtain ⟨z0, z1, z2, z3, z4, z5, z6, zf, zl⟩ := C2.seven
  have own := own_set own (own_ne' own (b := w.heap.size) (by omega)) (o := 6) (.slice p v.deps.length cc)
  have G1 := below_setb G1 (b := w.heap.size) (o := 6) (Nat.le_refl _) (.slice p v.deps.length cc)
  have own := own_set own (own_ne' own (b := w.heap.size + 1) (by omega)) (o := 0) (.int .i64 v.key)
  have G1 := below_setb G1 (b := w.heap.size + 1) (o := 0) (Nat.le_succ _) (.int .i64 v.key)
  have own := own_set own (own_ne' own (b := w.heap.size + 1) (by omega)) (o := 1) (.int .i64 v.time)
  have G1 := below_setb G1 (b := w.heap.size + 1) (o := 1) (Nat.le_succ _) (.int .i64 v.time)
  have own := own_set own (own_ne' own (b := w.heap.size + 1) (by omega)) (o := 2) (.int .i64 v.site)
  have G1 := below_setb G1 (b := w.heap.size + 1) (o := 2) (Nat.le_succ _) (.int .i64 v.site)
  have own := own_set own (own_ne' own (b := w.heap.size + 1) (by omega)) (o := 3) (.int .i64 v.val)
  have G1 := below_setb G1 (b := w.heap.size + 1) (o := 3) (Nat.le_succ _) (.int .i64 v.val)
  have own := own_set own (own_ne' own (b := w.heap.size + 1) (by omega)) (o := 4) (.int .i64 v.client)
  have G1 := below_setb G1 (b := w.heap.size + 1) (o := 4) (Nat.le_succ _) (.int .i64 v.client)
  have own := own_set own (own_ne' own (b := w.heap.size + 1) (by omega)) (o := 5) (.int .i64 v.call)
  have G1 := below_setb G1 (b := w.heap.size + 1) (o := 5) (Nat.le_succ _) (.int .i64 v.call)
  have own := own_set own (own_ne' own (b := w.heap.size + 1) (by omega)) (o := 6) (.slice p v.deps.length cc)
  have G1 := below_setb G1 (b := w.heap.size + 1) (o := 6) (Nat.le_succ _) (.slice p v.deps.length cc)
  go_wp2
  exact bodyPost_ret (v := .agg #[.int .i64 v.key, .int .i64 v.time, .int .i64 v.site, .int .i64 v.val, .int .i64 v.client, .int .i64 v.call, .slice p v.deps.length cc]) (by simp [results, Try.results62, go_sem, *]) rfl ⟨p, cc, rfl, own_base own (by omega), G1⟩

set_option maxRecDepth 100000 in
set_option maxHeartbeats 2000000 in
theorem l2Copy_spec (v : Vp) (a : Option Addr) (c : Nat) (w : World) (hd : Reads w a v.deps.length c (dpsC v.deps)) (hl : v.deps.length ≤ 1048577) :
    Calls Try.prog 58 #[.agg #[.int .i64 v.key, .int .i64 v.time, .int .i64 v.site, .int .i64 v.val, .int .i64 v.client, .int .i64 v.call, .slice a v.deps.length c]] w (GivesVer v w) := by
  obtain ⟨i0, hi, hz0, hz1, hz2⟩ := info_parts infoDep
  have C1 := (Blk.new w #[.int .i64 v.key, .int .i64 v.time, .int .i64 v.site, .int .i64 v.val, .int .i64 v.client, .int .i64 v.call, .slice a v.deps.length c] 27).alloc (.cells #[.int .i64 0, .int .i64 0, .int .i64 0, .int .i64 0, .int .i64 0, .int .i64 0, .slice none 0 0] 27)
  have C2 := Blk.new (w.alloc (.cells #[.int .i64 v.key, .int .i64 v.time, .int .i64 v.site, .int .i64 v.val, .int .i64 v.client, .int .i64 v.call, .slice a v.deps.length c] 27)) #[.int .i64 0, .int .i64 0, .int .i64 0, .int .i64 0, .int .i64 0, .int .i64 0, .slice none 0 0] 27
  simp only [World.size_alloc] at C2
  have G0 := below_box2 w (.cells #[.int .i64 v.key, .int .i64 v.time, .int .i64 v.site, .int .i64 v.val, .int .i64 v.client, .int .i64 v.call, .slice a v.deps.length c] 27) (.cells #[.int .i64 0, .int .i64 0, .int .i64 0, .int .i64 0, .int .i64 0, .int .i64 0, .slice none 0 0] 27)
  go_enter Try.func58, Try.ntmps58
  skip
  skip
  have own0 := World.ownsRow_made (base := w.heap.size + 1 + 1) (size := 3) (e := 32) (((w.alloc (.cells #[.int .i64 v.key, .int .i64 v.time, .int .i64 v.site, .int .i64 v.val, .int .i64 v.client, .int .i64 v.call, .slice a v.deps.length c] 27)).alloc (.cells #[.int .i64 0, .int .i64 0, .int .i64 0, .int .i64 0, .int .i64 0, .int .i64 0, .slice none 0 0] 27))) #[] 0 (by simp) (by simp) (by simp)
  simp only [World.size_alloc] at own0
  have C1 := C1.alloc (.cells #[] 32)
  have C2 := C2.alloc (.cells #[] 32)
  have G0 := below_alloc G0 (.cells #[] 32)
  obtain ⟨x0, x1, x2, x3, x4, x5, x6, xf, xl⟩ := C1.seven
  go_wp2_with (at_builtin; refine wpList_append_src _ rfl (.tmp 3) (.tmp 5) 25 rfl (w.heap.size + 1 + 1) 32 i0 _ 3 24 Try.underlying25 hi hz0 hz1 hz2 rfl (by decide) _ _ _ rfl own0 a v.deps.length c (dpsC v.deps) rfl (dpsC_len v.deps) (hd.below G0) (dpsC_one v.deps) (by unfold maxLen; omega) (by omega) (by simp) ?_)
  intro u w2 own hg2
  have hb2 := below_app (Below.refl (w.heap.size + 1 + 1) _) own0 hg2 (Nat.le_refl _) (by simp)
  have own : w2.ownsRow (w.heap.size + 1 + 1) 32 3 u v.deps.length (dpsC v.deps) := by simpa using own
  obtain ⟨p, cc, rfl, rd⟩ := Reads.of_owns own
  have n1 : w.heap.size + 1 ≠ w.heap.size := by omega
  have C1 := C1.below hb2 (by first | exact C1.lt | omega)
  have C2 := C2.below hb2 (by first | exact C2.lt | omega)
  have G1 := G0.trans (hb2.mono (by first | exact G0.size | omega))
  have own := own_base own (show w.heap.size + 1 + 1 ≤ _ by simp)
  obtain ⟨y0, y1, y2, y3, y4, y5, y6, yf, yl⟩ := C1.seven
  obtain ⟨z0, z1, z2, z3, z4, z5, z6, zf, zl⟩ := C2.seven
  have own := own_set own (own_ne' own (b := w.heap.size) (by omega)) (o := 6) (.slice p v.deps.length cc)
  have G1 := below_setb G1 (b := w.heap.size) (o := 6) (Nat.le_refl _) (.slice p v.deps.length cc)
  have own := own_set own (own_ne' own (b := w.heap.size + 1) (by omega)) (o := 0) (.int .i64 v.key)
  have G1 := below_setb G1 (b := w.heap.size + 1) (o := 0) (Nat.le_succ _) (.int .i64 v.key)
  have own := own_set own (own_ne' own (b := w.heap.size + 1) (by omega)) (o := 1) (.int .i64 v.time)
  have G1 := below_setb G1 (b := w.heap.size + 1) (o := 1) (Nat.le_succ _) (.int .i64 v.time)
  have own := own_set own (own_ne' own (b := w.heap.size + 1) (by omega)) (o := 2) (.int .i64 v.site)
  have G1 := below_setb G1 (b := w.heap.size + 1) (o := 2) (Nat.le_succ _) (.int .i64 v.site)
  have own := own_set own (own_ne' own (b := w.heap.size + 1) (by omega)) (o := 3) (.int .i64 v.val)
  have G1 := below_setb G1 (b := w.heap.size + 1) (o := 3) (Nat.le_succ _) (.int .i64 v.val)
  have own := own_set own (own_ne' own (b := w.heap.size + 1) (by omega)) (o := 4) (.int .i64 v.client)
  have G1 := below_setb G1 (b := w.heap.size + 1) (o := 4) (Nat.le_succ _) (.int .i64 v.client)
  have own := own_set own (own_ne' own (b := w.heap.size + 1) (by omega)) (o := 5) (.int .i64 v.call)
  have G1 := below_setb G1 (b := w.heap.size + 1) (o := 5) (Nat.le_succ _) (.int .i64 v.call)
  have own := own_set own (own_ne' own (b := w.heap.size + 1) (by omega)) (o := 6) (.slice p v.deps.length cc)
  have G1 := below_setb G1 (b := w.heap.size + 1) (o := 6) (Nat.le_succ _) (.slice p v.deps.length cc)
  go_wp2
  exact bodyPost_ret (v := .agg #[.int .i64 v.key, .int .i64 v.time, .int .i64 v.site, .int .i64 v.val, .int .i64 v.client, .int .i64 v.call, .slice p v.deps.length cc]) (by simp [results, Try.results58, go_sem, *]) rfl ⟨p, cc, rfl, own_base own (by omega), G1⟩

end Go.Proofs.Ythciikogogkfcaa
