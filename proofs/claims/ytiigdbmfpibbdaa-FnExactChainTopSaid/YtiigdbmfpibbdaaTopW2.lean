/- The newest version of a key: ChainTop, the program's and the reference's. -/
import Derived.Test.YtiigdbmfpibbdaaTopW
import Derived.Deep.RegionHeld3
namespace Go.Proofs.Ytiigdbmfpibbdaa
open Go.RowKit Go.Deep
set_option linter.unusedVariables false

theorem topV_bad {l : List Vp} {key : Int} (h : chainOkB l = false) : topV l key = none := by rw [topV, h]; rfl
theorem topV_ok {l : List Vp} {key : Int} (h : chainOkB l = true) : topV l key = topF l key := by rw [topV, h]; rfl
set_option maxHeartbeats 2000000 in
theorem ChainTop_impl (l : List Mv) (key : Int) (a : Option Addr) (c : Nat) (w : World) (hvs : Vers w a c l) (hf : Few l) :
    Calls Try.prog 50 #[.slice a l.length c, .int .i64 key] w (GivesO (topV (vs l) key) w) := by
  have BR := Blk.new w #[.int .i64 0, .int .i64 0, .int .i64 0, .int .i64 0, .int .i64 0, .int .i64 0, .slice none 0 0] 61
  have G0 := below_box w (.cells #[.int .i64 0, .int .i64 0, .int .i64 0, .int .i64 0, .int .i64 0, .int .i64 0, .slice none 0 0] 61)
  go_enter Try.func50, Try.ntmps50
  go_wp2_with fail
  refine (ChainOk_impl l a c _ (hvs.below G0) hf).mono ?_
  rintro e w1 ⟨rfl, hb1⟩
  have BR := BR.below hb1 BR.lt
  have G0 := below_after G0 hb1
  rcases hok : chainOkB (vs l) with _ | _
  · have HR := Lib.hid (topV_bad (key := key) hok)
    obtain ⟨r0, r1, r2, r3, r4, r5, r6, rf, rl⟩ := BR.seven
    have G9 := (below_setb (below_setb (below_setb (below_setb (below_setb (below_setb (below_setb G0 (b := w.heap.size) (o := 0) (Nat.le_refl _) (.int .i64 0)) (b := w.heap.size) (o := 1) (Nat.le_refl _) (.int .i64 0)) (b := w.heap.size) (o := 2) (Nat.le_refl _) (.int .i64 0)) (b := w.heap.size) (o := 3) (Nat.le_refl _) (.int .i64 0)) (b := w.heap.size) (o := 4) (Nat.le_refl _) (.int .i64 0)) (b := w.heap.size) (o := 5) (Nat.le_refl _) (.int .i64 0)) (b := w.heap.size) (o := 6) (Nat.le_refl _) (.slice none 0 0))
    go_wp2
    exact bodyPost_ret (v := .tuple #[.agg #[.int .i64 0, .int .i64 0, .int .i64 0, .int .i64 0, .int .i64 0, .int .i64 0, .slice none 0 0], .bool false]) (by simp [results, Try.results50, go_sem, *]) rfl (gives_none HR.out G9)
  · have HE := Lib.hid (topV_ok (key := key) hok)
    clear hok
    go_wp2_with fail
    refine (top_impl l key a c _ (hvs.below G0) hf).mono ?_
    rintro e w2 ⟨p, cc, rfl, own, hb2⟩
    have hsz1 := G0.size
    have hR1 := BR.lt
    have BR := BR.below hb2 BR.lt
    have G0 := below_after G0 hb2
    have own := own_base own (show w.heap.size + 1 ≤ w1.heap.size by omega)
    obtain ⟨r, hr⟩ : ∃ r, r = (topF (vs l) key).getD zeroV := ⟨_, rfl⟩
    obtain ⟨bo, hbo⟩ : ∃ bo, bo = (topF (vs l) key).isSome := ⟨_, rfl⟩
    rw [← hr] at own
    rw [← hr, ← hbo]
    have HR1 := Lib.hid hr
    have HR2 := Lib.hid hbo
    clear hr hbo
    obtain ⟨r0, r1, r2, r3, r4, r5, r6, rf, rl⟩ := BR.seven
    have G9 := (below_setb (below_setb (below_setb (below_setb (below_setb (below_setb (below_setb G0 (b := w.heap.size) (o := 0) (Nat.le_refl _) (.int .i64 r.key)) (b := w.heap.size) (o := 1) (Nat.le_refl _) (.int .i64 r.time)) (b := w.heap.size) (o := 2) (Nat.le_refl _) (.int .i64 r.site)) (b := w.heap.size) (o := 3) (Nat.le_refl _) (.int .i64 r.val)) (b := w.heap.size) (o := 4) (Nat.le_refl _) (.int .i64 r.client)) (b := w.heap.size) (o := 5) (Nat.le_refl _) (.int .i64 r.call)) (b := w.heap.size) (o := 6) (Nat.le_refl _) (.slice p r.deps.length cc))
    have own := own_set own (own_ne' own (b := w.heap.size) (by omega)) (o := 0) (.int .i64 r.key)
    have own := own_set own (own_ne' own (b := w.heap.size) (by omega)) (o := 1) (.int .i64 r.time)
    have own := own_set own (own_ne' own (b := w.heap.size) (by omega)) (o := 2) (.int .i64 r.site)
    have own := own_set own (own_ne' own (b := w.heap.size) (by omega)) (o := 3) (.int .i64 r.val)
    have own := own_set own (own_ne' own (b := w.heap.size) (by omega)) (o := 4) (.int .i64 r.client)
    have own := own_set own (own_ne' own (b := w.heap.size) (by omega)) (o := 5) (.int .i64 r.call)
    have own := own_set own (own_ne' own (b := w.heap.size) (by omega)) (o := 6) (.slice p r.deps.length cc)
    go_wp2
    exact bodyPost_ret (v := .tuple #[.agg #[.int .i64 r.key, .int .i64 r.time, .int .i64 r.site, .int .i64 r.val, .int .i64 r.client, .int .i64 r.call, .slice p r.deps.length cc], .bool bo]) (by simp [results, Try.results50, go_sem, *]) rfl (by rw [HE.out]; unfold GivesO; rw [← HR1.out, ← HR2.out]; exact ⟨p, cc, rfl, own_base own (by omega), G9⟩)

set_option maxHeartbeats 4000000 in
theorem ChainTop_spec (l : List Mv) (key : Int) (a : Option Addr) (c : Nat) (w : World) (hvs : Vers w a c l) (hf : Few l) :
    Calls Try.prog 49 #[.slice a l.length c, .int .i64 key] w (GivesO (topV (vs l) key) w) := by
  have BR := Blk.new w #[.int .i64 0, .int .i64 0, .int .i64 0, .int .i64 0, .int .i64 0, .int .i64 0, .slice none 0 0] 61
  have G0 := below_box w (.cells #[.int .i64 0, .int .i64 0, .int .i64 0, .int .i64 0, .int .i64 0, .int .i64 0, .slice none 0 0] 61)
  have hf1 := hf.1
  go_enter Try.func49, Try.ntmps49
  go_wp2_with fail
  refine (ChainOk_spec l a c _ (hvs.below G0) hf).mono ?_
  rintro e w2 ⟨rfl, hb2⟩
  have BR := BR.below hb2 BR.lt
  have G0 := below_after G0 hb2
  rcases hok : chainOkB (vs l) with _ | _
  · have HR := Lib.hid (topV_bad (key := key) hok)
    obtain ⟨r0, r1, r2, r3, r4, r5, r6, rf, rl⟩ := BR.seven
    have G9 := (below_setb (below_setb (below_setb (below_setb (below_setb (below_setb (below_setb G0 (b := w.heap.size) (o := 0) (Nat.le_refl _) (.int .i64 0)) (b := w.heap.size) (o := 1) (Nat.le_refl _) (.int .i64 0)) (b := w.heap.size) (o := 2) (Nat.le_refl _) (.int .i64 0)) (b := w.heap.size) (o := 3) (Nat.le_refl _) (.int .i64 0)) (b := w.heap.size) (o := 4) (Nat.le_refl _) (.int .i64 0)) (b := w.heap.size) (o := 5) (Nat.le_refl _) (.int .i64 0)) (b := w.heap.size) (o := 6) (Nat.le_refl _) (.slice none 0 0))
    go_wp2
    exact bodyPost_ret (v := .tuple #[.agg #[.int .i64 0, .int .i64 0, .int .i64 0, .int .i64 0, .int .i64 0, .int .i64 0, .slice none 0 0], .bool false]) (by simp [results, Try.results49, go_sem, *]) rfl (gives_none HR.out G9)
  have HE := Lib.hid (topV_ok (key := key) hok)
  clear hok
  go_wp2
  go_loopw [6] (fun i wr => ∃ (m : Nat) (i' : Int), m ≤ l.length ∧ i = .int .i64 i' ∧ (m : Int) = i' + 1 ∧ (∀ v ∈ (vs l).drop m, ¬ v.key = key) ∧ Blk wr w.heap.size #[.int .i64 0, .int .i64 0, .int .i64 0, .int .i64 0, .int .i64 0, .int .i64 0, .slice none 0 0] 61 ∧ Below w.heap.size w wr) (fun i _ => (intOf i + 1).toNat)
  case atStart => exact ⟨l.length, _, Nat.le_refl _, by first | rfl | go_num, by omega, by rw [← vs_len l, List.drop_length]; simp, BR, G0⟩
  case round =>
    obtain ⟨m, i', hm, rfl, hi, hno, BR, hBw⟩ := hrel
    have HO := Lib.hid hno
    clear hno
    cases m with
    | zero =>
      obtain rfl : i' = -1 := by omega
      have HR : Hid (topV (vs l) key = none) := by
        show _ = _
        rw [HE.out]; exact topF_miss (by have := HO.out; rwa [List.drop_zero] at this)
      have G0 := hBw
      obtain ⟨r0, r1, r2, r3, r4, r5, r6, rf, rl⟩ := BR.seven
      have G9 := (below_setb (below_setb (below_setb (below_setb (below_setb (below_setb (below_setb G0 (b := w.heap.size) (o := 0) (Nat.le_refl _) (.int .i64 0)) (b := w.heap.size) (o := 1) (Nat.le_refl _) (.int .i64 0)) (b := w.heap.size) (o := 2) (Nat.le_refl _) (.int .i64 0)) (b := w.heap.size) (o := 3) (Nat.le_refl _) (.int .i64 0)) (b := w.heap.size) (o := 4) (Nat.le_refl _) (.int .i64 0)) (b := w.heap.size) (o := 5) (Nat.le_refl _) (.int .i64 0)) (b := w.heap.size) (o := 6) (Nat.le_refl _) (.slice none 0 0))
      go_wp2
      exact bodyPost_ret (v := .tuple #[.agg #[.int .i64 0, .int .i64 0, .int .i64 0, .int .i64 0, .int .i64 0, .int .i64 0, .slice none 0 0], .bool false]) (by simp [results, Try.results49, go_sem, *]) rfl (gives_none HR.out G9)
    | succ k =>
      obtain rfl : i' = (k : Int) := by omega
      have hk : k < l.length := by omega
      have hi0 : (0 : Int) ≤ (k : Int) := by omega
      have hi1 : (k : Int) < (l.length : Int) := by omega
      have hv := hvs.below hBw
      obtain ⟨b, off, hab, hbl, c0, c1, c2, c3, c4, c5, c6⟩ := hv.at_ k hk
      subst hab
      by_cases h1 : l[k].v.key = key
      · have h1' : (l[k].v.key == key) = true := by simpa using h1
        have HR : Hid (topV (vs l) key = some l[k].v) := by
          show _ = _
          rw [HE.out, topF_at (k := k) (by rw [vs_len]; exact hk) (by rw [vs_get l k hk]; exact h1) HO.out, vs_get l k hk]
        clear h1
        go_wp2_with fail
        refine (l2Copy_spec l[k].v l[k].a l[k].c _ (hv.get k hk) (hf.get k hk)).mono ?_
        rintro e w3 ⟨p5, c5, rfl, own, hb3⟩
        have hR := BR.lt
        have BR := BR.below hb3 BR.lt
        have G0 := below_after hBw hb3
        have own := own_base own (show w.heap.size + 1 ≤ wr.heap.size by omega)
        obtain ⟨r0, r1, r2, r3, r4, r5, r6, rf, rl⟩ := BR.seven
        have G9 := (below_setb (below_setb (below_setb (below_setb (below_setb (below_setb (below_setb G0 (b := w.heap.size) (o := 0) (Nat.le_refl _) (.int .i64 l[k].v.key)) (b := w.heap.size) (o := 1) (Nat.le_refl _) (.int .i64 l[k].v.time)) (b := w.heap.size) (o := 2) (Nat.le_refl _) (.int .i64 l[k].v.site)) (b := w.heap.size) (o := 3) (Nat.le_refl _) (.int .i64 l[k].v.val)) (b := w.heap.size) (o := 4) (Nat.le_refl _) (.int .i64 l[k].v.client)) (b := w.heap.size) (o := 5) (Nat.le_refl _) (.int .i64 l[k].v.call)) (b := w.heap.size) (o := 6) (Nat.le_refl _) (.slice p5 l[k].v.deps.length c5))
        have own := own_set own (own_ne' own (b := w.heap.size) (by omega)) (o := 0) (.int .i64 l[k].v.key)
        have own := own_set own (own_ne' own (b := w.heap.size) (by omega)) (o := 1) (.int .i64 l[k].v.time)
        have own := own_set own (own_ne' own (b := w.heap.size) (by omega)) (o := 2) (.int .i64 l[k].v.site)
        have own := own_set own (own_ne' own (b := w.heap.size) (by omega)) (o := 3) (.int .i64 l[k].v.val)
        have own := own_set own (own_ne' own (b := w.heap.size) (by omega)) (o := 4) (.int .i64 l[k].v.client)
        have own := own_set own (own_ne' own (b := w.heap.size) (by omega)) (o := 5) (.int .i64 l[k].v.call)
        have own := own_set own (own_ne' own (b := w.heap.size) (by omega)) (o := 6) (.slice p5 l[k].v.deps.length c5)
        go_wp2
        exact bodyPost_ret (v := .tuple #[.agg #[.int .i64 l[k].v.key, .int .i64 l[k].v.time, .int .i64 l[k].v.site, .int .i64 l[k].v.val, .int .i64 l[k].v.client, .int .i64 l[k].v.call, .slice p5 l[k].v.deps.length c5], .bool true]) (by simp [results, Try.results49, go_sem, *]) rfl (gives_some HR.out (own_base own (by omega)) G9)
      · have h1' : (l[k].v.key == key) = false := by simpa using h1
        have HN : Hid (∀ v ∈ (vs l).drop k, ¬ v.key = key) := by
          show ∀ v ∈ _, _
          intro v hv
          rw [List.drop_eq_getElem_cons (by rw [vs_len]; exact hk), List.mem_cons] at hv
          rcases hv with rfl | hv
          · rw [vs_get l k hk]; exact h1
          · exact HO.out v hv
        clear h1
        go_wp2
        go_roundw
        case rel => exact ⟨k, _, by omega, rfl, by go_num, HN.out, BR, hBw⟩
        case measure => simp [intOf]

end Go.Proofs.Ytiigdbmfpibbdaa
