/- The laws' own comparisons of versions, and of lists of them, that are the same. -/
import Derived.Test.YtbpdhilhohcinaaLi
import Derived.Test.YtbpdhilhohcinaaVerO
namespace Go.Proofs.Ytbpdhilhohcinaa
open Go.RowKit Go.Deep
set_option linter.unusedVariables false

set_option maxHeartbeats 2000000 in
theorem liVer_same (v : Vp) (a a' : Option Addr) (c c' : Nat) (w : World) (hr : Reads w a v.deps.length c (dpsC v.deps)) (hs : Reads w a' v.deps.length c' (dpsC v.deps)) :
    Calls Try.prog 36 #[.agg #[.int .i64 v.key, .int .i64 v.time, .int .i64 v.site, .int .i64 v.val, .int .i64 v.client, .int .i64 v.call, .slice a v.deps.length c], .agg #[.int .i64 v.key, .int .i64 v.time, .int .i64 v.site, .int .i64 v.val, .int .i64 v.client, .int .i64 v.call, .slice a' v.deps.length c']] w fun e w' => e = .returned (.bool true) ∧ Below w.heap.size w w' := by
  have G := below_box2 w (.cells #[.int .i64 v.key, .int .i64 v.time, .int .i64 v.site, .int .i64 v.val, .int .i64 v.client, .int .i64 v.call, .slice a v.deps.length c] 54) (.cells #[.int .i64 v.key, .int .i64 v.time, .int .i64 v.site, .int .i64 v.val, .int .i64 v.client, .int .i64 v.call, .slice a' v.deps.length c'] 54)
  have C1 := (Blk.new w #[.int .i64 v.key, .int .i64 v.time, .int .i64 v.site, .int .i64 v.val, .int .i64 v.client, .int .i64 v.call, .slice a v.deps.length c] 54).alloc (.cells #[.int .i64 v.key, .int .i64 v.time, .int .i64 v.site, .int .i64 v.val, .int .i64 v.client, .int .i64 v.call, .slice a' v.deps.length c'] 54)
  have C2 := Blk.new (w.alloc (.cells #[.int .i64 v.key, .int .i64 v.time, .int .i64 v.site, .int .i64 v.val, .int .i64 v.client, .int .i64 v.call, .slice a v.deps.length c] 54)) #[.int .i64 v.key, .int .i64 v.time, .int .i64 v.site, .int .i64 v.val, .int .i64 v.client, .int .i64 v.call, .slice a' v.deps.length c'] 54
  simp only [World.size_alloc] at C2
  go_enter Try.func36, Try.ntmps36
  obtain ⟨x0, x1, x2, x3, x4, x5, x6, xf, xl⟩ := C1.seven
  obtain ⟨y0, y1, y2, y3, y4, y5, y6, yf, yl⟩ := C2.seven
  go_wp2_with fail
  refine (liDeps_same v.deps a a' c c' _ (hr.below G) (hs.below G)).mono ?_
  rintro e w2 ⟨rfl, hb2⟩
  go_wp2
  go_ret
  exact ⟨rfl, below_after G hb2⟩

set_option maxHeartbeats 2000000 in
theorem liVers_same (l l' : List Mv) (a a' : Option Addr) (c c' : Nat) (w : World) (hvs : Vers w a c l) (hvt : Vers w a' c' l') (he : vs l' = vs l) :
    Calls Try.prog 46 #[.slice a l.length c, .slice a' l'.length c'] w fun e w' => e = .returned (.bool true) ∧ Below w.heap.size w w' := by
  have hn := hvs.len
  have hlen : l'.length = l.length := by rw [← vs_len l', he, vs_len]
  have HE : ∀ k (h : k < l.length) (h' : k < l'.length), l'[k].v = l[k].v := fun k h h' => by
    rw [← vs_get l' k h', ← vs_get l k h]; congr 1
  have HEE := Lib.hid HE
  clear HE
  have HL := Lib.hid hlen
  have hleb : l'.length ≤ l.length := by omega
  have hlea : l.length ≤ l'.length := by omega
  rw [hlen]
  clear hlen he
  go_enter Try.func46, Try.ntmps46
  go_wp2
  go_loopw [5] (fun i wr => ∃ k : Nat, k ≤ l.length ∧ i = .int .i64 k ∧ Below w.heap.size w wr) (fun i _ => l.length - (intOf i).toNat)
  case atStart => exact ⟨0, Nat.zero_le _, rfl, Below.refl _ _⟩
  case round =>
    obtain ⟨k, hk, rfl, hb⟩ := hrel
    by_cases hlt : k < l.length
    · have hlt' : k < l'.length := by omega
      have hv := hvs.below hb
      have hu := hvt.below hb
      have hev := HEE.out k hlt hlt'
      obtain ⟨b, off, hab, hbl, c0, c1, c2, c3, c4, c5, c6⟩ := hv.at_ k hlt
      obtain ⟨b', off', hab', hbl', d0, d1, d2, d3, d4, d5, d6⟩ := hu.at_ k hlt'
      subst hab
      subst hab'
      have hr := hv.get k hlt
      have hs := hu.get k hlt'
      rw [hev] at d0 d1 d2 d3 d4 d5 d6 hs
      have hi0 : (0 : Int) ≤ (k : Int) := by omega
      have hi1 : (k : Int) < (l.length : Int) := by omega
      clear hev
      go_wp2
      refine region_over (by kernel_rfl) (by kernel_rfl) ?_
      repeat (go_big_quiet_step ((go_at_call 36; exact quiet_over (liVer_same l[k].v l[k].a l'[k].a l[k].c l'[k].c _ (hr.below (over_below _ _)) (hs.below (over_below _ _))))))
      refine wpQuiet_nil ?_
      intro w1 hb1
      have hbw := below_after hb hb1
      go_wp2
      go_roundw
      case rel => exact ⟨k + 1, by omega, by go_num, hbw⟩
      case measure => simp [intOf]; omega
    · obtain rfl : k = l.length := by omega
      go_wp2
      go_ret
      exact ⟨rfl, hb⟩

end Go.Proofs.Ytbpdhilhohcinaa
