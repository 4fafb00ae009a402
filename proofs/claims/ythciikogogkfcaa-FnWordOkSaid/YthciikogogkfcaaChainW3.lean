/- A version that is found by its stamp; are all dependencies there? The program's functions and the reference's. -/
import Derived.Test.YthciikogogkfcaaChainW2
namespace Go.Proofs.Ythciikogogkfcaa
open Go.RowKit Go.Deep
set_option linter.unusedVariables false

/-- A version and a bool come back, the version's dependencies in memory of the callee's own. -/
def GivesO (r : Option Vp) (w : World) (e : Ending) (w' : World) : Prop := ∃ (a : Option Addr) (c : Nat), e = .returned (.tuple #[.agg #[.int .i64 (r.getD zeroV).key, .int .i64 (r.getD zeroV).time, .int .i64 (r.getD zeroV).site, .int .i64 (r.getD zeroV).val, .int .i64 (r.getD zeroV).client, .int .i64 (r.getD zeroV).call, .slice a (r.getD zeroV).deps.length c], .bool r.isSome]) ∧ w'.ownsRow w.heap.size 32 3 (.slice a (r.getD zeroV).deps.length c) (r.getD zeroV).deps.length (dpsC (r.getD zeroV).deps) ∧ Below w.heap.size w w'
theorem gives_none {r : Option Vp} {w w' : World} (h : r = none) (hb : Below w.heap.size w w') : GivesO r w (.returned (.tuple #[.agg #[.int .i64 0, .int .i64 0, .int .i64 0, .int .i64 0, .int .i64 0, .int .i64 0, .slice none 0 0], .bool false])) w' := by
  subst h; exact ⟨none, 0, rfl, World.ownsRow_nil _ _ _ _, hb⟩
theorem gives_some {r : Option Vp} {v : Vp} {a : Option Addr} {c : Nat} {w w' : World} (h : r = some v) (own : w'.ownsRow w.heap.size 32 3 (.slice a v.deps.length c) v.deps.length (dpsC v.deps)) (hb : Below w.heap.size w w') : GivesO r w (.returned (.tuple #[.agg #[.int .i64 v.key, .int .i64 v.time, .int .i64 v.site, .int .i64 v.val, .int .i64 v.client, .int .i64 v.call, .slice a v.deps.length c], .bool true])) w' := by
  subst h; exact ⟨a, c, rfl, own, hb⟩
theorem place_at (l : List Mv) (a : Option Addr) (c : Nat) (q : Dp) (n : Int) (w : World) (hvs : Vers w a c l) (hl : l.length ≤ 1048577) (h : placeI (vs l) q = n) :
    Calls Try.prog 60 #[.slice a l.length c, .agg #[.int .i64 q.1, .int .i64 q.2.1, .int .i64 q.2.2]] w fun e w' => e = .returned (.int .i64 n) ∧ Below w.heap.size w w' := by
  subst h; exact place_impl l a c q w hvs hl
theorem place_some {l : List Mv} {q : Dp} (h : posV (vs l) q < (vs l).length) : ∃ k, ∃ h : k < l.length, placeI (vs l) q = (k : Int) ∧ getV (vs l) q = some l[k].v := by
  have hpl : posV (vs l) q < l.length := by rwa [vs_len] at h
  exact ⟨posV (vs l) q, hpl, by rw [placeI, if_pos h], by rw [getV_pos h, vs_get l _ hpl]⟩
theorem place_none {l : List Vp} {q : Dp} (h : ¬ posV l q < l.length) : placeI l q = -1 := by rw [placeI, if_neg h]

set_option maxHeartbeats 2000000 in
theorem ChainAt_impl (l : List Mv) (q : Dp) (a : Option Addr) (c : Nat) (w : World) (hvs : Vers w a c l) (hf : Few l) :
    Calls Try.prog 18 #[.slice a l.length c, .int .i64 q.1, .agg #[.int .i64 q.2.1, .int .i64 q.2.2]] w (GivesO (atV (vs l) q) w) := by
  have BS := (Blk.new w #[.int .i64 q.2.1, .int .i64 q.2.2] 24).alloc (.cells #[.int .i64 0, .int .i64 0, .int .i64 0, .int .i64 0, .int .i64 0, .int .i64 0, .slice none 0 0] 27)
  have BR := Blk.new (w.alloc (.cells #[.int .i64 q.2.1, .int .i64 q.2.2] 24)) #[.int .i64 0, .int .i64 0, .int .i64 0, .int .i64 0, .int .i64 0, .int .i64 0, .slice none 0 0] 27
  simp only [World.size_alloc] at BR
  have G0 := below_box2 w (.cells #[.int .i64 q.2.1, .int .i64 q.2.2] 24) (.cells #[.int .i64 0, .int .i64 0, .int .i64 0, .int .i64 0, .int .i64 0, .int .i64 0, .slice none 0 0] 27)
  have hf1 := hf.1
  by_cases hp : posV (vs l) q < (vs l).length
  · obtain ⟨k, hpl, hpk, hgk⟩ := place_some hp
    have HPK := Lib.hid hpk
    have HGK := Lib.hid hgk
    clear hp hpk hgk
    go_enter Try.func18, Try.ntmps18
    go_wp2_with fail
    refine (place_at l a c q k _ (hvs.below G0) hf1 HPK.out).mono ?_
    rintro e w1 ⟨rfl, hb1⟩
    have BS := BS.below hb1 BS.lt
    have BR := BR.below hb1 BR.lt
    have G0 := below_after G0 hb1
    go_wp2_with fail
    refine (ChainOk_impl l a c _ (hvs.below G0) hf).mono ?_
    rintro e w2 ⟨rfl, hb2⟩
    have BS := BS.below hb2 BS.lt
    have BR := BR.below hb2 BR.lt
    have G0 := below_after G0 hb2
    rcases hok : chainOkB (vs l) with _ | _
    · have HR := Lib.hid (atV_bad (q := q) hok)
      obtain ⟨r0, r1, r2, r3, r4, r5, r6, rf, rl⟩ := BR.seven
      have G9 := (below_setb (below_setb (below_setb (below_setb (below_setb (below_setb (below_setb G0 (b := w.heap.size + 1) (o := 0) (Nat.le_succ _) (.int .i64 0)) (b := w.heap.size + 1) (o := 1) (Nat.le_succ _) (.int .i64 0)) (b := w.heap.size + 1) (o := 2) (Nat.le_succ _) (.int .i64 0)) (b := w.heap.size + 1) (o := 3) (Nat.le_succ _) (.int .i64 0)) (b := w.heap.size + 1) (o := 4) (Nat.le_succ _) (.int .i64 0)) (b := w.heap.size + 1) (o := 5) (Nat.le_succ _) (.int .i64 0)) (b := w.heap.size + 1) (o := 6) (Nat.le_succ _) (.slice none 0 0))
      go_wp2
      exact bodyPost_ret (v := .tuple #[.agg #[.int .i64 0, .int .i64 0, .int .i64 0, .int .i64 0, .int .i64 0, .int .i64 0, .slice none 0 0], .bool false]) (by simp [results, Try.results18, go_sem, *]) rfl (gives_none HR.out G9)
    · have HR : Hid (atV (vs l) q = some l[k].v) := by show _ = _; rw [atV_ok hok, HGK.out]
      have hi0 : (0 : Int) ≤ (k : Int) := by omega
      have hi1 : (k : Int) < (l.length : Int) := by omega
      have hv := hvs.below G0
      obtain ⟨b, off, hab, hbl, c0, c1, c2, c3, c4, c5, c6⟩ := hv.at_ k hpl
      subst hab
      go_wp2_with fail
      refine (clone_impl l[k].v l[k].a l[k].c _ (hv.get k hpl) (hf.get k hpl)).mono ?_
      rintro e w3 ⟨p5, c5, rfl, own, hb3⟩
      have G0s := G0
      have hR := BR.lt
      have BR := BR.below hb3 BR.lt
      have G0 := below_after G0 hb3
      have own := own_base own (show w.heap.size + 1 + 1 ≤ w2.heap.size by omega)
      obtain ⟨r0, r1, r2, r3, r4, r5, r6, rf, rl⟩ := BR.seven
      have G9 := (below_setb (below_setb (below_setb (below_setb (below_setb (below_setb (below_setb G0 (b := w.heap.size + 1) (o := 0) (Nat.le_succ _) (.int .i64 l[k].v.key)) (b := w.heap.size + 1) (o := 1) (Nat.le_succ _) (.int .i64 l[k].v.time)) (b := w.heap.size + 1) (o := 2) (Nat.le_succ _) (.int .i64 l[k].v.site)) (b := w.heap.size + 1) (o := 3) (Nat.le_succ _) (.int .i64 l[k].v.val)) (b := w.heap.size + 1) (o := 4) (Nat.le_succ _) (.int .i64 l[k].v.client)) (b := w.heap.size + 1) (o := 5) (Nat.le_succ _) (.int .i64 l[k].v.call)) (b := w.heap.size + 1) (o := 6) (Nat.le_succ _) (.slice p5 l[k].v.deps.length c5))
      have own := own_set own (own_ne' own (b := w.heap.size + 1) (by omega)) (o := 0) (.int .i64 l[k].v.key)
      have own := own_set own (own_ne' own (b := w.heap.size + 1) (by omega)) (o := 1) (.int .i64 l[k].v.time)
      have own := own_set own (own_ne' own (b := w.heap.size + 1) (by omega)) (o := 2) (.int .i64 l[k].v.site)
      have own := own_set own (own_ne' own (b := w.heap.size + 1) (by omega)) (o := 3) (.int .i64 l[k].v.val)
      have own := own_set own (own_ne' own (b := w.heap.size + 1) (by omega)) (o := 4) (.int .i64 l[k].v.client)
      have own := own_set own (own_ne' own (b := w.heap.size + 1) (by omega)) (o := 5) (.int .i64 l[k].v.call)
      have own := own_set own (own_ne' own (b := w.heap.size + 1) (by omega)) (o := 6) (.slice p5 l[k].v.deps.length c5)
      go_wp2
      exact bodyPost_ret (v := .tuple #[.agg #[.int .i64 l[k].v.key, .int .i64 l[k].v.time, .int .i64 l[k].v.site, .int .i64 l[k].v.val, .int .i64 l[k].v.client, .int .i64 l[k].v.call, .slice p5 l[k].v.deps.length c5], .bool true]) (by simp [results, Try.results18, go_sem, *]) rfl (gives_some HR.out (own_base own (by omega)) G9)
  · go_enter Try.func18, Try.ntmps18
    go_wp2_with fail
    refine (place_at l a c q (-1) _ (hvs.below G0) hf1 (place_none hp)).mono ?_
    rintro e w1 ⟨rfl, hb1⟩
    have BS := BS.below hb1 BS.lt
    have BR := BR.below hb1 BR.lt
    have G0 := below_after G0 hb1
    go_wp2_with fail
    refine (ChainOk_impl l a c _ (hvs.below G0) hf).mono ?_
    rintro e w2 ⟨rfl, hb2⟩
    have BR := BR.below hb2 BR.lt
    have G0 := below_after G0 hb2
    have HR : Hid (atV (vs l) q = none) := by
      show _ = _
      rcases hok : chainOkB (vs l) with _ | _
      · exact atV_bad hok
      · rw [atV_ok hok, getV_neg hp]
    clear hp
    rcases hok : chainOkB (vs l) with _ | _
    · obtain ⟨r0, r1, r2, r3, r4, r5, r6, rf, rl⟩ := BR.seven
      have G9 := (below_setb (below_setb (below_setb (below_setb (below_setb (below_setb (below_setb G0 (b := w.heap.size + 1) (o := 0) (Nat.le_succ _) (.int .i64 0)) (b := w.heap.size + 1) (o := 1) (Nat.le_succ _) (.int .i64 0)) (b := w.heap.size + 1) (o := 2) (Nat.le_succ _) (.int .i64 0)) (b := w.heap.size + 1) (o := 3) (Nat.le_succ _) (.int .i64 0)) (b := w.heap.size + 1) (o := 4) (Nat.le_succ _) (.int .i64 0)) (b := w.heap.size + 1) (o := 5) (Nat.le_succ _) (.int .i64 0)) (b := w.heap.size + 1) (o := 6) (Nat.le_succ _) (.slice none 0 0))
      go_wp2
      exact bodyPost_ret (v := .tuple #[.agg #[.int .i64 0, .int .i64 0, .int .i64 0, .int .i64 0, .int .i64 0, .int .i64 0, .slice none 0 0], .bool false]) (by simp [results, Try.results18, go_sem, *]) rfl (gives_none HR.out G9)
    · obtain ⟨r0, r1, r2, r3, r4, r5, r6, rf, rl⟩ := BR.seven
      have G9 := (below_setb (below_setb (below_setb (below_setb (below_setb (below_setb (below_setb G0 (b := w.heap.size + 1) (o := 0) (Nat.le_succ _) (.int .i64 0)) (b := w.heap.size + 1) (o := 1) (Nat.le_succ _) (.int .i64 0)) (b := w.heap.size + 1) (o := 2) (Nat.le_succ _) (.int .i64 0)) (b := w.heap.size + 1) (o := 3) (Nat.le_succ _) (.int .i64 0)) (b := w.heap.size + 1) (o := 4) (Nat.le_succ _) (.int .i64 0)) (b := w.heap.size + 1) (o := 5) (Nat.le_succ _) (.int .i64 0)) (b := w.heap.size + 1) (o := 6) (Nat.le_succ _) (.slice none 0 0))
      go_wp2
      exact bodyPost_ret (v := .tuple #[.agg #[.int .i64 0, .int .i64 0, .int .i64 0, .int .i64 0, .int .i64 0, .int .i64 0, .slice none 0 0], .bool false]) (by simp [results, Try.results18, go_sem, *]) rfl (gives_none HR.out G9)

set_option maxHeartbeats 4000000 in
theorem ChainAt_spec (l : List Mv) (q : Dp) (a : Option Addr) (c : Nat) (w : World) (hvs : Vers w a c l) (hf : Few l) :
    Calls Try.prog 15 #[.slice a l.length c, .int .i64 q.1, .agg #[.int .i64 q.2.1, .int .i64 q.2.2]] w (GivesO (atV (vs l) q) w) := by
  have BS := (Blk.new w #[.int .i64 q.2.1, .int .i64 q.2.2] 24).alloc (.cells #[.int .i64 0, .int .i64 0, .int .i64 0, .int .i64 0, .int .i64 0, .int .i64 0, .slice none 0 0] 27)
  have BR := Blk.new (w.alloc (.cells #[.int .i64 q.2.1, .int .i64 q.2.2] 24)) #[.int .i64 0, .int .i64 0, .int .i64 0, .int .i64 0, .int .i64 0, .int .i64 0, .slice none 0 0] 27
  simp only [World.size_alloc] at BR
  have G0 := below_box2 w (.cells #[.int .i64 q.2.1, .int .i64 q.2.2] 24) (.cells #[.int .i64 0, .int .i64 0, .int .i64 0, .int .i64 0, .int .i64 0, .int .i64 0, .slice none 0 0] 27)
  have hf1 := hf.1
  go_enter Try.func15, Try.ntmps15
  go_wp2_with fail
  refine (ChainOk_spec l a c _ (hvs.below G0) hf).mono ?_
  rintro e w2 ⟨rfl, hb2⟩
  have BS := BS.below hb2 BS.lt
  have BR := BR.below hb2 BR.lt
  have G0 := below_after G0 hb2
  rcases hok : chainOkB (vs l) with _ | _
  · have HR := Lib.hid (atV_bad (q := q) hok)
    obtain ⟨r0, r1, r2, r3, r4, r5, r6, rf, rl⟩ := BR.seven
    have G9 := (below_setb (below_setb (below_setb (below_setb (below_setb (below_setb (below_setb G0 (b := w.heap.size + 1) (o := 0) (Nat.le_succ _) (.int .i64 0)) (b := w.heap.size + 1) (o := 1) (Nat.le_succ _) (.int .i64 0)) (b := w.heap.size + 1) (o := 2) (Nat.le_succ _) (.int .i64 0)) (b := w.heap.size + 1) (o := 3) (Nat.le_succ _) (.int .i64 0)) (b := w.heap.size + 1) (o := 4) (Nat.le_succ _) (.int .i64 0)) (b := w.heap.size + 1) (o := 5) (Nat.le_succ _) (.int .i64 0)) (b := w.heap.size + 1) (o := 6) (Nat.le_succ _) (.slice none 0 0))
    go_wp2
    exact bodyPost_ret (v := .tuple #[.agg #[.int .i64 0, .int .i64 0, .int .i64 0, .int .i64 0, .int .i64 0, .int .i64 0, .slice none 0 0], .bool false]) (by simp [results, Try.results15, go_sem, *]) rfl (gives_none HR.out G9)
  have HE := Lib.hid (atV_ok (q := q) hok)
  clear hok
  go_wp2
  go_loopw [8] (fun i wr => ∃ k : Nat, k ≤ l.length ∧ i = .int .i64 k ∧ (∀ v ∈ (vs l).take k, isV v q = false) ∧ Blk wr w.heap.size #[.int .i64 q.2.1, .int .i64 q.2.2] 24 ∧ Blk wr (w.heap.size + 1) #[.int .i64 0, .int .i64 0, .int .i64 0, .int .i64 0, .int .i64 0, .int .i64 0, .slice none 0 0] 27 ∧ Below w.heap.size w wr) (fun i _ => l.length - (intOf i).toNat)
  case atStart => exact ⟨0, Nat.zero_le _, rfl, by simp, BS, BR, G0⟩
  case round =>
    obtain ⟨k, hk, rfl, hno, BS, BR, hBw⟩ := hrel
    have HO := Lib.hid hno
    clear hno
    have hsz := BR.lt
    by_cases hlt : k < l.length
    · have hv := hvs.below hBw
      have hi0 : (0 : Int) ≤ (k : Int) := by omega
      have hi1 : (k : Int) < (l.length : Int) := by omega
      obtain ⟨b, off, hab, hbl, c0, c1, c2, c3, c4, c5, c6⟩ := hv.at_ k hlt
      subst hab
      obtain ⟨s0, s1, sf, sl⟩ := BS.two
      by_cases h1 : l[k].v.key = q.1
      · have h1' : (l[k].v.key == q.1) = true := by simpa using h1
        by_cases h2 : l[k].v.time = q.2.1
        · have h2' : (l[k].v.time == q.2.1) = true := by simpa using h2
          by_cases h3 : l[k].v.site = q.2.2
          · have h3' : (l[k].v.site == q.2.2) = true := by simpa using h3
            have HR : Hid (atV (vs l) q = some l[k].v) := by
              show _ = _
              rw [HE.out, getV_hit (k := k) (by rw [vs_len]; exact hlt) HO.out (by rw [vs_get l k hlt]; simp [isV, h1, h2, h3]), vs_get l k hlt]
            clear h1 h2 h3
            go_wp2
            refine region_over (by kernel_rfl) (by kernel_rfl) ?_
            repeat (go_big_quiet_step (fail))
            refine wpQuiet_nil ?_
            intro w9 hb9
            have G0 := below_after hBw hb9
            have BS := BS.below hb9 BS.lt
            have BR := BR.below hb9 BR.lt
            have hv := hv.below hb9

            obtain ⟨b, off, hab, hbl, c0, c1, c2, c3, c4, c5, c6⟩ := hv.at_ k hlt
            simp only [Option.some.injEq, Addr.mk.injEq, and_true] at hab
            obtain ⟨rfl, rfl⟩ := hab
            go_wp2_with fail
            refine (l2Copy_spec l[k].v l[k].a l[k].c _ (hv.get k hlt) (hf.get k hlt)).mono ?_
            rintro e w3 ⟨p5, c5, rfl, own, hb3⟩
            have hR := BR.lt
            have BR := BR.below hb3 BR.lt
            have G0 := below_after G0 hb3
            have own := own_base own (show w.heap.size + 1 + 1 ≤ w9.heap.size by omega)
            obtain ⟨r0, r1, r2, r3, r4, r5, r6, rf, rl⟩ := BR.seven
            have G9 := (below_setb (below_setb (below_setb (below_setb (below_setb (below_setb (below_setb G0 (b := w.heap.size + 1) (o := 0) (Nat.le_succ _) (.int .i64 l[k].v.key)) (b := w.heap.size + 1) (o := 1) (Nat.le_succ _) (.int .i64 l[k].v.time)) (b := w.heap.size + 1) (o := 2) (Nat.le_succ _) (.int .i64 l[k].v.site)) (b := w.heap.size + 1) (o := 3) (Nat.le_succ _) (.int .i64 l[k].v.val)) (b := w.heap.size + 1) (o := 4) (Nat.le_succ _) (.int .i64 l[k].v.client)) (b := w.heap.size + 1) (o := 5) (Nat.le_succ _) (.int .i64 l[k].v.call)) (b := w.heap.size + 1) (o := 6) (Nat.le_succ _) (.slice p5 l[k].v.deps.length c5))
            have own := own_set own (own_ne' own (b := w.heap.size + 1) (by omega)) (o := 0) (.int .i64 l[k].v.key)
            have own := own_set own (own_ne' own (b := w.heap.size + 1) (by omega)) (o := 1) (.int .i64 l[k].v.time)
            have own := own_set own (own_ne' own (b := w.heap.size + 1) (by omega)) (o := 2) (.int .i64 l[k].v.site)
            have own := own_set own (own_ne' own (b := w.heap.size + 1) (by omega)) (o := 3) (.int .i64 l[k].v.val)
            have own := own_set own (own_ne' own (b := w.heap.size + 1) (by omega)) (o := 4) (.int .i64 l[k].v.client)
            have own := own_set own (own_ne' own (b := w.heap.size + 1) (by omega)) (o := 5) (.int .i64 l[k].v.call)
            have own := own_set own (own_ne' own (b := w.heap.size + 1) (by omega)) (o := 6) (.slice p5 l[k].v.deps.length c5)
            go_wp2
            exact bodyPost_ret (v := .tuple #[.agg #[.int .i64 l[k].v.key, .int .i64 l[k].v.time, .int .i64 l[k].v.site, .int .i64 l[k].v.val, .int .i64 l[k].v.client, .int .i64 l[k].v.call, .slice p5 l[k].v.deps.length c5], .bool true]) (by simp [results, Try.results15, go_sem, *]) rfl (gives_some HR.out (own_base own (by omega)) G9)
          · have h3' : (l[k].v.site == q.2.2) = false := by simpa using h3
            have HN : Hid (∀ v ∈ (vs l).take (k + 1), isV v q = false) := noneV_take (by rw [vs_len]; exact hlt) HO.out (by rw [vs_get l k hlt]; simp [isV, h3])
            clear h1 h2 h3
            go_wp2
            refine region_over (by kernel_rfl) (by kernel_rfl) ?_
            repeat (go_big_quiet_step (fail))
            refine wpQuiet_nil ?_
            intro w9 hb9
            have G0 := below_after hBw hb9
            have BS := BS.below hb9 BS.lt
            have BR := BR.below hb9 BR.lt
            have hv := hv.below hb9
            go_wp2
            go_roundw
            case rel => exact ⟨k + 1, by omega, by go_num, HN.out, BS, BR, G0⟩
            case measure => simp [intOf]; omega
        · have h2' : (l[k].v.time == q.2.1) = false := by simpa using h2
          have HN : Hid (∀ v ∈ (vs l).take (k + 1), isV v q = false) := noneV_take (by rw [vs_len]; exact hlt) HO.out (by rw [vs_get l k hlt]; simp [isV, h2])
          clear h1 h2
          go_wp2
          refine region_over (by kernel_rfl) (by kernel_rfl) ?_
          repeat (go_big_quiet_step (fail))
          refine wpQuiet_nil ?_
          intro w9 hb9
          have G0 := below_after hBw hb9
          have BS := BS.below hb9 BS.lt
          have BR := BR.below hb9 BR.lt
          have hv := hv.below hb9
          go_wp2
          go_roundw
          case rel => exact ⟨k + 1, by omega, by go_num, HN.out, BS, BR, G0⟩
          case measure => simp [intOf]; omega
      · have h1' : (l[k].v.key == q.1) = false := by simpa using h1
        have HN : Hid (∀ v ∈ (vs l).take (k + 1), isV v q = false) := noneV_take (by rw [vs_len]; exact hlt) HO.out (by rw [vs_get l k hlt]; simp [isV, h1])
        clear h1
        go_wp2
        refine region_over (by kernel_rfl) (by kernel_rfl) ?_
        repeat (go_big_quiet_step (fail))
        refine wpQuiet_nil ?_
        intro w9 hb9
        have G0 := below_after hBw hb9
        have BS := BS.below hb9 BS.lt
        have BR := BR.below hb9 BR.lt
        have hv := hv.below hb9
        go_wp2
        go_roundw
        case rel => exact ⟨k + 1, by omega, by go_num, HN.out, BS, BR, G0⟩
        case measure => simp [intOf]; omega
    · obtain rfl : k = l.length := by omega
      have HR : Hid (atV (vs l) q = none) := by
        show _ = _
        rw [HE.out, getV_miss (by have := HO.out; rwa [← vs_len l, List.take_length] at this)]
      have G0 := hBw
      obtain ⟨r0, r1, r2, r3, r4, r5, r6, rf, rl⟩ := BR.seven
      have G9 := (below_setb (below_setb (below_setb (below_setb (below_setb (below_setb (below_setb G0 (b := w.heap.size + 1) (o := 0) (Nat.le_succ _) (.int .i64 0)) (b := w.heap.size + 1) (o := 1) (Nat.le_succ _) (.int .i64 0)) (b := w.heap.size + 1) (o := 2) (Nat.le_succ _) (.int .i64 0)) (b := w.heap.size + 1) (o := 3) (Nat.le_succ _) (.int .i64 0)) (b := w.heap.size + 1) (o := 4) (Nat.le_succ _) (.int .i64 0)) (b := w.heap.size + 1) (o := 5) (Nat.le_succ _) (.int .i64 0)) (b := w.heap.size + 1) (o := 6) (Nat.le_succ _) (.slice none 0 0))
      go_wp2
      exact bodyPost_ret (v := .tuple #[.agg #[.int .i64 0, .int .i64 0, .int .i64 0, .int .i64 0, .int .i64 0, .int .i64 0, .slice none 0 0], .bool false]) (by simp [results, Try.results15, go_sem, *]) rfl (gives_none HR.out G9)

end Go.Proofs.Ythciikogogkfcaa
