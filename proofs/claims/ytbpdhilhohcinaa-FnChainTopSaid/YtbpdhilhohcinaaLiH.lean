/- The laws' own look-up of a version, and whether all of some are among others. -/
import Derived.Test.YtbpdhilhohcinaaLiV
import Derived.Test.YtbpdhilhohcinaaChainN
import Derived.Deep.RegionWith
namespace Go.Proofs.Ytbpdhilhohcinaa
open Go.RowKit Go.Deep
set_option linter.unusedVariables false

def zeroM : Mv := ⟨zeroV, none, 0⟩
/-- The version found, with the place of its dependencies. -/
def getM (l : List Mv) (q : Dp) : Option Mv := l[posV (vs l) q]?
theorem getM_hit {l : List Mv} {q : Dp} {k : Nat} (h : k < l.length) (hn : ∀ v ∈ (vs l).take k, isV v q = false) (hi : isV l[k].v q = true) : getM l q = some l[k] := by
  unfold getM
  rw [posV_hit (l := vs l) (k := k) (by rw [vs_len]; exact h) hn (by rw [vs_get l k h]; exact hi)]
  exact List.getElem?_eq_getElem h
theorem getM_miss {l : List Mv} {q : Dp} (hn : ∀ v ∈ vs l, isV v q = false) : getM l q = none := by
  unfold getM; rw [posV_miss hn, vs_len]; simp
theorem getM_v (l : List Mv) (q : Dp) : (getM l q).map Mv.v = getV (vs l) q := by
  unfold getM getV vs; rw [List.getElem?_map]
theorem getM_mem {l : List Mv} {q : Dp} {m : Mv} (h : getM l q = some m) : m ∈ l := List.mem_of_getElem? h
def GivesM (r : Option Mv) (w : World) (e : Ending) (w' : World) : Prop := e = .returned (.tuple #[.agg #[.int .i64 (r.getD zeroM).v.key, .int .i64 (r.getD zeroM).v.time, .int .i64 (r.getD zeroM).v.site, .int .i64 (r.getD zeroM).v.val, .int .i64 (r.getD zeroM).v.client, .int .i64 (r.getD zeroM).v.call, .slice (r.getD zeroM).a (r.getD zeroM).v.deps.length (r.getD zeroM).c], .bool r.isSome]) ∧ Below w.heap.size w w'
theorem givesM_none {r : Option Mv} {w w' : World} (h : r = none) (hb : Below w.heap.size w w') : GivesM r w (.returned (.tuple #[.agg #[.int .i64 0, .int .i64 0, .int .i64 0, .int .i64 0, .int .i64 0, .int .i64 0, .slice none 0 0], .bool false])) w' := by subst h; exact ⟨rfl, hb⟩
theorem givesM_some {r : Option Mv} {m : Mv} {w w' : World} (h : r = some m) (hb : Below w.heap.size w w') : GivesM r w (.returned (.tuple #[.agg #[.int .i64 m.v.key, .int .i64 m.v.time, .int .i64 m.v.site, .int .i64 m.v.val, .int .i64 m.v.client, .int .i64 m.v.call, .slice m.a m.v.deps.length m.c], .bool true])) w' := by subst h; exact ⟨rfl, hb⟩

set_option maxRecDepth 100000 in
set_option maxHeartbeats 4000000 in
theorem liAt_any (l : List Mv) (q : Dp) (a : Option Addr) (c : Nat) (w : World) (hvs : Vers w a c l) (hl : l.length ≤ 1048577) :
    Calls Try.prog 103 #[.slice a l.length c, .int .i64 q.1, .agg #[.int .i64 q.2.1, .int .i64 q.2.2]] w (GivesM (getM l q) w) := by
  have BS := (Blk.new w #[.int .i64 q.2.1, .int .i64 q.2.2] 32).alloc (.cells #[.int .i64 0, .int .i64 0, .int .i64 0, .int .i64 0, .int .i64 0, .int .i64 0, .slice none 0 0] 54)
  have BR := Blk.new (w.alloc (.cells #[.int .i64 q.2.1, .int .i64 q.2.2] 32)) #[.int .i64 0, .int .i64 0, .int .i64 0, .int .i64 0, .int .i64 0, .int .i64 0, .slice none 0 0] 54
  simp only [World.size_alloc] at BR
  have G0 := below_box2 w (.cells #[.int .i64 q.2.1, .int .i64 q.2.2] 32) (.cells #[.int .i64 0, .int .i64 0, .int .i64 0, .int .i64 0, .int .i64 0, .int .i64 0, .slice none 0 0] 54)
  go_enter Try.func103, Try.ntmps103
  go_wp2
  go_loopw [8] (fun i wr => ∃ k : Nat, k ≤ l.length ∧ i = .int .i64 k ∧ (∀ v ∈ (vs l).take k, isV v q = false) ∧ Blk wr w.heap.size #[.int .i64 q.2.1, .int .i64 q.2.2] 32 ∧ Blk wr (w.heap.size + 1) #[.int .i64 0, .int .i64 0, .int .i64 0, .int .i64 0, .int .i64 0, .int .i64 0, .slice none 0 0] 54 ∧ Below w.heap.size w wr) (fun i _ => l.length - (intOf i).toNat)
  case atStart => exact ⟨0, Nat.zero_le _, rfl, by simp, BS, BR, G0⟩
  case round =>
    obtain ⟨k, hk, rfl, hno, BS, BR, hBw⟩ := hrel
    have HO := Lib.hid hno
    clear hno
    have hsz := BR.lt
    by_cases hlt : k < l.length
    · have hv := hvs.below hBw
      have hi0 : (0 : Int) ≤ (k : Int) := by omega
      have hi1 : (k : Int) < (l.length : Int) := by omega
      obtain ⟨b, off, hab, hbl, c0, c1, c2, c3, c4, c5, c6⟩ := hv.at_ k hlt
      subst hab
      obtain ⟨s0, s1, sf, sl⟩ := BS.two
      by_cases h1 : l[k].v.key = q.1
      · have h1' : (l[k].v.key == q.1) = true := by simpa using h1
        by_cases h2 : l[k].v.time = q.2.1
        · have h2' : (l[k].v.time == q.2.1) = true := by simpa using h2
          by_cases h3 : l[k].v.site = q.2.2
          · have h3' : (l[k].v.site == q.2.2) = true := by simpa using h3
            have HR : Hid (getM l q = some l[k]) := getM_hit hlt HO.out (by simp [isV, h1, h2, h3])
            clear h1 h2 h3
            go_wp2
            refine region_over (by kernel_rfl) (by kernel_rfl) ?_
            repeat (go_big_quiet_step (fail))
            refine wpQuiet_nil ?_
            intro w9 hb9
            have G0 := below_after hBw hb9
            have BS := BS.below hb9 BS.lt
            have BR := BR.below hb9 BR.lt
            have hv := hv.below hb9

            obtain ⟨b, off, hab, hbl, c0, c1, c2, c3, c4, c5, c6⟩ := hv.at_ k hlt
            simp only [Option.some.injEq, Addr.mk.injEq, and_true] at hab
            obtain ⟨rfl, rfl⟩ := hab
            obtain ⟨r0, r1, r2, r3, r4, r5, r6, rf, rl⟩ := BR.seven
            have G9 := (below_setb (below_setb (below_setb (below_setb (below_setb (below_setb (below_setb G0 (b := w.heap.size + 1) (o := 0) (Nat.le_succ _) (.int .i64 l[k].v.key)) (b := w.heap.size + 1) (o := 1) (Nat.le_succ _) (.int .i64 l[k].v.time)) (b := w.heap.size + 1) (o := 2) (Nat.le_succ _) (.int .i64 l[k].v.site)) (b := w.heap.size + 1) (o := 3) (Nat.le_succ _) (.int .i64 l[k].v.val)) (b := w.heap.size + 1) (o := 4) (Nat.le_succ _) (.int .i64 l[k].v.client)) (b := w.heap.size + 1) (o := 5) (Nat.le_succ _) (.int .i64 l[k].v.call)) (b := w.heap.size + 1) (o := 6) (Nat.le_succ _) (.slice l[k].a l[k].v.deps.length l[k].c))
            go_wp2
            exact bodyPost_ret (v := .tuple #[.agg #[.int .i64 l[k].v.key, .int .i64 l[k].v.time, .int .i64 l[k].v.site, .int .i64 l[k].v.val, .int .i64 l[k].v.client, .int .i64 l[k].v.call, .slice l[k].a l[k].v.deps.length l[k].c], .bool true]) (by simp [results, Try.results103, go_sem, *]) rfl (givesM_some HR.out G9)
          · have h3' : (l[k].v.site == q.2.2) = false := by simpa using h3
            have HN : Hid (∀ v ∈ (vs l).take (k + 1), isV v q = false) := noneV_take (by rw [vs_len]; exact hlt) HO.out (by rw [vs_get l k hlt]; simp [isV, h3])
            clear h1 h2 h3
            go_wp2
            refine region_over (by kernel_rfl) (by kernel_rfl) ?_
            repeat (go_big_quiet_step (fail))
            refine wpQuiet_nil ?_
            intro w9 hb9
            have G0 := below_after hBw hb9
            have BS := BS.below hb9 BS.lt
            have BR := BR.below hb9 BR.lt
            have hv := hv.below hb9
            go_wp2
            go_roundw
            case rel => exact ⟨k + 1, by omega, by go_num, HN.out, BS, BR, G0⟩
            case measure => simp [intOf]; omega
        · have h2' : (l[k].v.time == q.2.1) = false := by simpa using h2
          have HN : Hid (∀ v ∈ (vs l).take (k + 1), isV v q = false) := noneV_take (by rw [vs_len]; exact hlt) HO.out (by rw [vs_get l k hlt]; simp [isV, h2])
          clear h1 h2
          go_wp2
          refine region_over (by kernel_rfl) (by kernel_rfl) ?_
          repeat (go_big_quiet_step (fail))
          refine wpQuiet_nil ?_
          intro w9 hb9
          have G0 := below_after hBw hb9
          have BS := BS.below hb9 BS.lt
          have BR := BR.below hb9 BR.lt
          have hv := hv.below hb9
          go_wp2
          go_roundw
          case rel => exact ⟨k + 1, by omega, by go_num, HN.out, BS, BR, G0⟩
          case measure => simp [intOf]; omega
      · have h1' : (l[k].v.key == q.1) = false := by simpa using h1
        have HN : Hid (∀ v ∈ (vs l).take (k + 1), isV v q = false) := noneV_take (by rw [vs_len]; exact hlt) HO.out (by rw [vs_get l k hlt]; simp [isV, h1])
        clear h1
        go_wp2
        refine region_over (by kernel_rfl) (by kernel_rfl) ?_
        repeat (go_big_quiet_step (fail))
        refine wpQuiet_nil ?_
        intro w9 hb9
        have G0 := below_after hBw hb9
        have BS := BS.below hb9 BS.lt
        have BR := BR.below hb9 BR.lt
        have hv := hv.below hb9
        go_wp2
        go_roundw
        case rel => exact ⟨k + 1, by omega, by go_num, HN.out, BS, BR, G0⟩
        case measure => simp [intOf]; omega
    · obtain rfl : k = l.length := by omega
      have HR : Hid (getM l q = none) := getM_miss (by have := HO.out; rwa [← vs_len l, List.take_length] at this)
      obtain ⟨r0, r1, r2, r3, r4, r5, r6, rf, rl⟩ := BR.seven
      have G9 := (below_setb (below_setb (below_setb (below_setb (below_setb (below_setb (below_setb hBw (b := w.heap.size + 1) (o := 0) (Nat.le_succ _) (.int .i64 0)) (b := w.heap.size + 1) (o := 1) (Nat.le_succ _) (.int .i64 0)) (b := w.heap.size + 1) (o := 2) (Nat.le_succ _) (.int .i64 0)) (b := w.heap.size + 1) (o := 3) (Nat.le_succ _) (.int .i64 0)) (b := w.heap.size + 1) (o := 4) (Nat.le_succ _) (.int .i64 0)) (b := w.heap.size + 1) (o := 5) (Nat.le_succ _) (.int .i64 0)) (b := w.heap.size + 1) (o := 6) (Nat.le_succ _) (.slice none 0 0))
      go_wp2
      exact bodyPost_ret (v := .tuple #[.agg #[.int .i64 0, .int .i64 0, .int .i64 0, .int .i64 0, .int .i64 0, .int .i64 0, .slice none 0 0], .bool false]) (by simp [results, Try.results103, go_sem, *]) rfl (givesM_none HR.out G9)

/-- All of some are among others, as they are. -/
def AllIn (l s : List Mv) : Prop := ∀ k (h : k < s.length), ∃ g, getM l (depV s[k].v) = some g ∧ g.v = s[k].v
theorem vers_set {w : World} {a : Option Addr} {c b o : Nat} {l : List Mv} (h : Vers w a c l) (hb : w.heap.size ≤ b) (u : Value) : Vers (w.setCell ⟨b, o, none⟩ u) a c l := h.below ((Below.refl _ _).setCell (p := ⟨b, o, none⟩) hb u)
set_option maxRecDepth 100000 in
set_option maxHeartbeats 8000000 in
theorem liHas_all (l s : List Mv) (a as' : Option Addr) (c cs : Nat) (w : World) (hva : Vers w a c l) (hvs' : Vers w as' cs s) (hl : l.length ≤ 1048577) (hall : AllIn l s) :
    Calls Try.prog 38 #[.slice a l.length c, .slice as' s.length cs] w fun e w' => e = .returned (.bool true) ∧ Below w.heap.size w w' := by
  have hns := hvs'.len
  have HALL := Lib.hid hall
  clear hall
  go_enter Try.func38, Try.ntmps38
  go_wp2
  go_loopw [5, 6, 7] (fun i _ _ wr => ∃ k : Nat, k ≤ s.length ∧ i = .int .i64 k ∧ Below w.heap.size w wr) (fun i _ _ _ => s.length - (intOf i).toNat)
  case atStart => exact ⟨0, Nat.zero_le _, rfl, Below.refl _ _⟩
  case round =>
    obtain ⟨k, hk, rfl, hBw⟩ := hrel
    by_cases hlt : k < s.length
    · have hBd := hBw.drew
      have hwz := hBw.size
      obtain ⟨g, hg, hgv⟩ := HALL.out k hlt
      have hi0 : (0 : Int) ≤ (k : Int) := by omega
      have hi1 : (k : Int) < (s.length : Int) := by omega
      obtain ⟨b, off, hab, hbl, c0, c1, c2, c3, c4, c5, c6⟩ := (hvs'.below hBd).at_ k hlt
      subst hab
      have hbl : b < wr.heap.size := hbl
      have k0 : wr.cell? ⟨b, off + k * 7, none⟩ = some (.int .i64 s[k].v.key) := c0
      have k1 : wr.cell? ⟨b, off + k * 7 + 1, none⟩ = some (.int .i64 s[k].v.time) := c1
      have k2 : wr.cell? ⟨b, off + k * 7 + 2, none⟩ = some (.int .i64 s[k].v.site) := c2
      have hne1 : ¬ wr.heap.size = b := by omega
      have hne2 : ¬ b = wr.heap.size := by omega
      clear c3 c4 c5 c6
      have HG : Hid (∀ W, Vers W a c l → Calls Try.prog 103 #[.slice a l.length c, .int .i64 s[k].v.key, .agg #[.int .i64 s[k].v.time, .int .i64 s[k].v.site]] W fun e w' => e = .returned (.tuple #[.agg #[.int .i64 g.v.key, .int .i64 g.v.time, .int .i64 g.v.site, .int .i64 g.v.val, .int .i64 g.v.client, .int .i64 g.v.call, .slice g.a g.v.deps.length g.c], .bool true]) ∧ Below W.heap.size W w') := fun W hW => by
        have h := liAt_any l (depV s[k].v) a c W hW hl
        rw [hg] at h
        exact h
      have HGM := Lib.hid (getM_mem hg)
      have HGV := Lib.hid hgv
      clear hg hgv
      go_wp2_with fail
      go_region_with (first | (go_at_call 103; (with_reducible refine (HG.out wr.drew (hva.below hBd)).mono ?_); rintro e w3 ⟨rfl, hb⟩; have hva4 := (hva.below hBd).below hb; have hs4 := (hvs'.below hBd).below hb; have G4 := below_after hBd hb; have hw34 := G4.size; clear c0 c1 c2 k0 k1 k2; obtain ⟨b2, off2, hab2, hbl2, d0, d1, d2, d3, d4, d5, d6⟩ := hs4.at_ k hlt; simp only [Option.some.injEq, Addr.mk.injEq, and_true] at hab2; obtain ⟨rfl, rfl⟩ := hab2) | (go_at_call 103; (with_reducible refine (HG.out (wr.alloc (.cells #[.int .i64 0, .int .i64 0, .int .i64 0, .int .i64 0, .int .i64 0, .int .i64 0, .slice none 0 0] 54)).drew (hva.below ((below_alloc hBw (.cells #[.int .i64 0, .int .i64 0, .int .i64 0, .int .i64 0, .int .i64 0, .int .i64 0, .slice none 0 0] 54)).drew))).mono ?_); rintro e w3 ⟨rfl, hb⟩; have BZ := (Blk.drew (Blk.new wr #[.int .i64 0, .int .i64 0, .int .i64 0, .int .i64 0, .int .i64 0, .int .i64 0, .slice none 0 0] 54)).below hb (Blk.drew (Blk.new wr #[.int .i64 0, .int .i64 0, .int .i64 0, .int .i64 0, .int .i64 0, .int .i64 0, .slice none 0 0] 54)).lt; have hva4 := (hva.below ((below_alloc hBw (.cells #[.int .i64 0, .int .i64 0, .int .i64 0, .int .i64 0, .int .i64 0, .int .i64 0, .slice none 0 0] 54)).drew)).below hb; have hs4 := (hvs'.below ((below_alloc hBw (.cells #[.int .i64 0, .int .i64 0, .int .i64 0, .int .i64 0, .int .i64 0, .int .i64 0, .slice none 0 0] 54)).drew)).below hb; have G4 := below_after ((below_alloc hBw (.cells #[.int .i64 0, .int .i64 0, .int .i64 0, .int .i64 0, .int .i64 0, .int .i64 0, .slice none 0 0] 54)).drew) hb; have hw34 := G4.size; obtain ⟨z0, z1, z2, z3, z4, z5, z6, zf, zl⟩ := BZ.seven; clear c0 c1 c2 k0 k1 k2; obtain ⟨b2, off2, hab2, hbl2, d0, d1, d2, d3, d4, d5, d6⟩ := hs4.at_ k hlt; simp only [Option.some.injEq, Addr.mk.injEq, and_true] at hab2; obtain ⟨rfl, rfl⟩ := hab2))
      all_goals (
        first
        | (have BZ := BZ
           have hne := BZ.lt
           have hbz : ¬ b = wr.heap.size := by omega
           have BW := (((((((BZ.put0 (.int .i64 g.v.key)).put1 (.int .i64 g.v.time)).put2 (.int .i64 g.v.site)).put3 (.int .i64 g.v.val)).put4 (.int .i64 g.v.client)).put5 (.int .i64 g.v.call)).put6 (.slice g.a g.v.deps.length g.c))
           have G5 := (below_setb (below_setb (below_setb (below_setb (below_setb (below_setb (below_setb G4 (b := wr.heap.size) (o := 0) (by omega) (.int .i64 g.v.key)) (b := wr.heap.size) (o := 1) (by omega) (.int .i64 g.v.time)) (b := wr.heap.size) (o := 2) (by omega) (.int .i64 g.v.site)) (b := wr.heap.size) (o := 3) (by omega) (.int .i64 g.v.val)) (b := wr.heap.size) (o := 4) (by omega) (.int .i64 g.v.client)) (b := wr.heap.size) (o := 5) (by omega) (.int .i64 g.v.call)) (b := wr.heap.size) (o := 6) (by omega) (.slice g.a g.v.deps.length g.c)))
        | (have BW := Blk.new w3 #[.int .i64 g.v.key, .int .i64 g.v.time, .int .i64 g.v.site, .int .i64 g.v.val, .int .i64 g.v.client, .int .i64 g.v.call, .slice g.a g.v.deps.length g.c] 54
           have G5 := below_alloc G4 (.cells #[.int .i64 g.v.key, .int .i64 g.v.time, .int .i64 g.v.site, .int .i64 g.v.val, .int .i64 g.v.client, .int .i64 g.v.call, .slice g.a g.v.deps.length g.c] 54))
        have hs5 := hvs'.below G5
        have hg5 := (hva.below G5).dp g HGM.out
        obtain ⟨b3, off3, hab3, hbl3, x0, x1, x2, x3, x4, x5, x6⟩ := hs5.at_ k hlt
        simp only [Option.some.injEq, Addr.mk.injEq, and_true] at hab3
        obtain ⟨rfl, rfl⟩ := hab3
        have hrs := hs5.get k hlt
        obtain ⟨y0, y1, y2, y3, y4, y5, y6, yf, yl⟩ := BW.seven
        have hcl : ∀ W, Reads W g.a g.v.deps.length g.c (dpsC g.v.deps) → Reads W s[k].a s[k].v.deps.length s[k].c (dpsC s[k].v.deps) → Calls Try.prog 36 #[.agg #[.int .i64 g.v.key, .int .i64 g.v.time, .int .i64 g.v.site, .int .i64 g.v.val, .int .i64 g.v.client, .int .i64 g.v.call, .slice g.a g.v.deps.length g.c], .agg #[.int .i64 s[k].v.key, .int .i64 s[k].v.time, .int .i64 s[k].v.site, .int .i64 s[k].v.val, .int .i64 s[k].v.client, .int .i64 s[k].v.call, .slice s[k].a s[k].v.deps.length s[k].c]] W fun e w' => e = .returned (.bool true) ∧ Below W.heap.size W w' := fun W h1 h2 => by
          rw [HGV.out] at h1 ⊢
          exact liVer_same s[k].v g.a s[k].a g.c s[k].c W h1 h2
        have HCL := Lib.hid hcl
        clear hcl
        go_wp2
        (try go_simp)
        (try go_wp2)
        refine region_over (by kernel_rfl) (by kernel_rfl) ?_
        repeat (go_big_quiet_step ((go_at_call 36; exact quiet_over (HCL.out _ (hg5.below (over_below _ _)) (hrs.below (over_below _ _))))))
        refine wpQuiet_nil ?_
        intro w9 hb9
        go_wp2
        go_roundw
        case rel => exact ⟨k + 1, by omega, by go_num, below_after G5 hb9⟩
        case measure => simp [intOf]; omega)
    · obtain rfl : k = s.length := by omega
      go_wp2
      go_ret
      exact ⟨rfl, hBw⟩

end Go.Proofs.Ytbpdhilhohcinaa
