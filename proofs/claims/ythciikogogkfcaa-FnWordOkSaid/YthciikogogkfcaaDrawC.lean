/- The draws of versions. -/
import Derived.Test.YthciikogogkfcaaDrawV
import Derived.Test.YthciikogogkfcaaPutV2
namespace Go.Proofs.Ythciikogogkfcaa
open Go.RowKit Go.Deep
set_option linter.unusedVariables false

theorem OwnVers.grown {N g : Nat} {w w' : World} {v : Value} {l : List Mv} (h : OwnVers N w v l) (hg : w.grownBy w' (some g)) (hn : g < N) : OwnVers N w' v l :=
  ⟨own_grown h.own hg hn, fun m hm => own_grown (h.inn.row m hm) hg hn, h.inn.apart⟩
def Small (l : List Mv) : Prop := ∀ m ∈ l, m.v.deps.length ≤ 3
theorem Small.few {l : List Mv} (h : Small l) (hl : l.length ≤ 140) : Few l := ⟨by omega, fun m hm => by have := h m hm; omega⟩
theorem small_put {A B : List Mv} {x : Vp} (h : Small A) (hx : x.deps.length ≤ 3) (hB : vs B = chainPutL (vs A) x) : Small B ∧ B.length ≤ A.length + 1 := by
  refine ⟨fun m hm => ?_, ?_⟩
  · have : m.v ∈ vs B := List.mem_map_of_mem hm
    rw [hB] at this
    rcases putL_mem this with e | e
    · rw [e]; exact hx
    · obtain ⟨y, hy, e⟩ := List.mem_map.1 e
      rw [← e]; exact h y hy
  · rw [← vs_len B, hB, ← vs_len A]; exact putL_len _ _
/-- Versions are drawn, into memory of the callee's own. -/
def DrawnVers (N : Nat) (w : World) (g q : Nat) (e : Ending) (w' : World) : Prop :=
  ∃ (v : Value) (l : List Mv) (q' : Nat), e = .returned v ∧ l.length ≤ 140 ∧ Small l ∧ OwnVers w.heap.size w' v l ∧ q' ≤ q + 1500 ∧ Rd N w' g q' ∧ w.grownBy w' (some g)
theorem infoVerC : (Try.prog.info? 27).map (fun i => (i.zero, i.size, i.bytes)) = some (some (.agg #[.int .i64 0, .int .i64 0, .int .i64 0, .int .i64 0, .int .i64 0, .int .i64 0, .slice none 0 0]), 7, 72) := by kernel_rfl

theorem reads_nilD (w : World) : Reads w none ([] : List Dp).length 0 (dpsC []) := ⟨Nat.le_refl _, by simp, fun h => absurd rfl h⟩
set_option maxRecDepth 100000 in
set_option maxHeartbeats 8000000 in
theorem l72Chain_any (most : Int) (N g q : Nat) (w : World) (hr : Rd N w g q) (hq : q ≤ 600000) (hm1 : 1 ≤ most) (hm2 : most ≤ 12) :
    Calls Try.prog 117 #[.pointer (some ⟨g, 0, none⟩), .int .i64 most] w (DrawnVers N w g q) := by
  obtain ⟨i0, hi, hz0, hz1, hz2⟩ := info_parts infoVerC
  have hNg := hr.lt
  have hNw := hr.le
  have T0 := OwnVers.made w
  have G0 := only_alloc (only_refl w (some g)) (.cells #[] 27)
  go_enter Try.func117, Try.ntmps117
  go_wp2_with fail
  refine (pick_any most N g q _ (hr.alloc _) (by omega) (by omega) (by omega)).mono ?_
  rintro e w1 ⟨x1, rfl, h1a, h1b, hr1, hg1⟩
  have T0 := T0.grown hg1 (by omega)
  have G0 := grown_trans' G0 hg1
  obtain ⟨m, rfl⟩ := Int.eq_ofNat_of_zero_le h1a
  have hm11 : m ≤ 11 := by omega
  clear h1a h1b
  go_wp2
  go_loopw [5, 6] (fun v n wr => ∃ (m : Nat) (A : List Mv) (pa : Option Addr) (ca q1 : Nat), m + A.length ≤ 11 ∧ n = .int .i64 m ∧ v = .slice pa A.length ca ∧ q1 + 60 * m ≤ q + 661 ∧ OwnVers w.heap.size wr (.slice pa A.length ca) A ∧ Small A ∧ Rd N wr g q1 ∧ w.grownBy wr (some g)) (fun _ n _ => (intOf n).toNat)
  case atStart => exact ⟨m, [], _, 0, q + 1, by simpa using hm11, rfl, rfl, by omega, T0, fun _ h => by simp at h, hr1, G0⟩
  case round =>
    obtain ⟨m, A, pa, ca, q1, hmA, rfl, rfl, hq1, T, hsm, hr2, G⟩ := hrel
    have szG := G.size
    by_cases hlt : 0 < m
    · go_wp2_with fail
      refine (l72Ver_any N g q1 _ hr2 (by omega)).mono ?_
      rintro e w4 ⟨v4, p4, c4, q4, rfl, hd4, own4, hq4, hr4, hg4⟩
      have T := T.grown hg4 (by omega)
      have G := grown_trans' G hg4
      have szG4 := G.size
      have hrX := hr4
      go_wp2_with fail
      refine (ChainPut_spec A v4 pa p4 ca c4 _ (T.vers) (hsm.few (by omega)) (Reads.own own4) (by omega)).mono ?_
      rintro e w5 ⟨v5, B, rfl, hvB, T5, hb5⟩
      obtain ⟨pb, cb, rfl, _⟩ := T5.open_
      obtain ⟨hsB, hlB⟩ := small_put hsm hd4 hvB
      have T5 := T5.base (show w.heap.size ≤ _ by omega)
      have hr5 := hrX.below hb5
      have G5 := grown_trans' G (grown_of_below hb5 _)
      clear hvB T

      go_wp2
      go_roundw
      case rel => exact ⟨m - 1, B, pb, cb, q4, by omega, by go_num, rfl, by omega, T5, hsB, hr5, G5⟩
      case measure => simp [intOf]; omega
    · obtain rfl : m = 0 := by omega
      have hA11 : A.length ≤ 11 := by omega
      go_wp2_with fail
      refine (pick_any 16 N g q1 _ hr2 (by omega) (by omega) (by omega)).mono ?_
      rintro e w3 ⟨x3, rfl, h3a, h3b, hr3, hg3⟩
      have T := T.grown hg3 (by omega)
      have G := grown_trans' G hg3
      have szG3 := G.size
      have hltA := T.lts
      obtain ⟨q3, hq3⟩ : ∃ q3, q3 = q1 + 1 := ⟨_, rfl⟩
      rw [← hq3] at hr3
      by_cases e0 : x3 = 0
      · subst e0
        go_wp2_with fail
        refine (l72Ver_any N g _ _ hr3 (by omega)).mono ?_
        rintro e w4 ⟨v4, p4, c4, q4, rfl, hd4, own4, hq4, hr4, hg4⟩
        have T := T.grown hg4 (by omega)
        have G := grown_trans' G hg4
        have szG4 := G.size
        have hlts := T.lts
        have hs34 := hg4.size
        go_wp2_with (at_builtin; refine wpList_append_lies _ rfl (.tmp 29) (.tmp 32) 39 rfl w.heap.size 27 i0 _ 7 72 Try.underlying39 hi hz0 hz1 hz2 rfl (by decide) _ _ _ rfl (T.own.alloc _) _ 1 1 (mvC ⟨v4, p4, c4⟩) rfl rfl (by exact cells_at _ _ _ rfl rfl) (by exact mvC_one _) (by omega) (by unfold maxLen; omega) (by omega) (by simp; omega) _ rfl ?_)
        intro g5 c5 w5 own5 hg5 hor5 hlt5
        have hownA := own_below T.own (below_box _ (.cells #[.int .i64 v4.key, .int .i64 v4.time, .int .i64 v4.site, .int .i64 v4.val, .int .i64 v4.client, .int .i64 v4.call, .slice p4 v4.deps.length c4] 27))
        have T5 := OwnVers.app (m := ⟨v4, p4, c4⟩) (T.below (below_box _ (.cells #[.int .i64 v4.key, .int .i64 v4.time, .int .i64 v4.site, .int .i64 v4.val, .int .i64 v4.client, .int .i64 v4.call, .slice p4 v4.deps.length c4] 27))) own5 (by simp only [List.length_append, List.length_cons, List.length_nil]) (mvsC_snoc _ _).symm hg5 (own_below own4 (below_box _ (.cells #[.int .i64 v4.key, .int .i64 v4.time, .int .i64 v4.site, .int .i64 v4.val, .int .i64 v4.client, .int .i64 v4.call, .slice p4 v4.deps.length c4] 27))) (by omega) hltA
        have hr5 := rd_app (hr4.alloc _) hownA hg5 (by omega)
        have G5 := only_app (only_alloc G _) hownA hg5 (Nat.le_refl _)
        have hsB : Small (A ++ [(⟨v4, p4, c4⟩ : Mv)]) := fun y hy => by
          rcases List.mem_append.1 hy with h | h
          · exact hsm y h
          · simp only [List.mem_singleton] at h; subst h; exact hd4
        clear own5 hg5 hor5
        go_wp2
        go_ret
        exact ⟨_, _, q4, rfl, by simp; omega, hsB, T5, by omega, hr5, G5⟩
      have e0' : (x3 == 0) = false := by simpa using e0
      by_cases e1 : x3 = 1
      · subst e1
        go_wp2
        go_loopw [5, 7, 8, 9] (fun v n _ _ wr => ∃ (n' : Nat) (A : List Mv) (pa : Option Addr) (ca q1 : Nat), A.length ≤ 11 + 3 * n' ∧ n' ≤ 40 ∧ n = .int .i64 n' ∧ v = .slice pa A.length ca ∧ q1 ≤ q3 + n' ∧ OwnVers w.heap.size wr (.slice pa A.length ca) A ∧ Small A ∧ Rd N wr g q1 ∧ w.grownBy wr (some g)) (fun _ n _ _ _ => 40 - (intOf n).toNat)
        case atStart => exact ⟨0, A, pa, ca, q3, by omega, by omega, rfl, rfl, by omega, T, hsm, hr3, G⟩
        case round =>
          obtain ⟨n, A, pa, ca, q5, hA, hn40, rfl, rfl, hq5, T, hsm, hrn, G⟩ := hrel
          by_cases hlt : n < 40
          · have hlt' : (n : Int) < 40 := by omega
            go_wp2_with fail
            refine (pick_any 4 N g q5 _ hrn (by omega) (by omega) (by omega)).mono ?_
            rintro e w4 ⟨x4, rfl, h4a, h4b, hr4, hg4⟩
            have T := T.grown hg4 (by omega)
            have G := grown_trans' G hg4
            by_cases e4 : x4 = 0
            · subst e4
              go_wp2
              go_loopw [5, 8, 9] (fun v kk _ wr => ∃ (k : Nat) (A : List Mv) (pa : Option Addr) (ca q1 : Nat), A.length ≤ 11 + 3 * n + k ∧ k ≤ 3 ∧ kk = .int .i64 k ∧ v = .slice pa A.length ca ∧ q1 ≤ q3 + n + 1 ∧ OwnVers w.heap.size wr (.slice pa A.length ca) A ∧ Small A ∧ Rd N wr g q1 ∧ w.grownBy wr (some g)) (fun _ kk _ _ => 3 - (intOf kk).toNat)
              case atStart => exact ⟨0, A, pa, ca, q5 + 1, by omega, by omega, rfl, rfl, by omega, T, hsm, hr4, G⟩
              case round =>
                obtain ⟨k, A, pa, ca, q6, hA, hk3, rfl, rfl, hq6, T, hsm, hrk, G⟩ := hrel
                by_cases hltk : k < 3
                · have hltk' : (k : Int) < 3 := by omega
                  have BV := Blk.new wr #[.int .i64 k, .int .i64 (20 + (n : Int)), .int .i64 k, .int .i64 0, .int .i64 1, .int .i64 9, .slice none 0 0] 27
                  have T := T.below (below_box wr (.cells #[.int .i64 k, .int .i64 (20 + (n : Int)), .int .i64 k, .int .i64 0, .int .i64 1, .int .i64 9, .slice none 0 0] 27))
                  have hrX := hrk.alloc (.cells #[.int .i64 k, .int .i64 (20 + (n : Int)), .int .i64 k, .int .i64 0, .int .i64 1, .int .i64 9, .slice none 0 0] 27)
                  have G := only_alloc G (.cells #[.int .i64 k, .int .i64 (20 + (n : Int)), .int .i64 k, .int .i64 0, .int .i64 1, .int .i64 9, .slice none 0 0] 27)
                  have szG := G.size
                  obtain ⟨x0, x1, x2, x3, x4, x5, x6, xf, xl⟩ := BV.seven
                  go_wp2_with fail
                  refine (ChainPut_spec A ⟨(k : Int), 20 + (n : Int), (k : Int), 0, 1, 9, []⟩ pa none ca 0 _ (T.vers) (hsm.few (by omega)) (reads_nilD _) (by simp)).mono ?_
                  rintro e w5 ⟨v5, B, rfl, hvB, T5, hb5⟩
                  obtain ⟨pb, cb, rfl, _⟩ := T5.open_
                  obtain ⟨hsB, hlB⟩ := small_put hsm (by simp) hvB
                  have T5 := T5.base (show w.heap.size ≤ _ by omega)
                  have hr5 := hrX.below hb5
                  have G5 := grown_trans' G (grown_of_below hb5 _)
                  clear hvB T

                  go_wp2
                  go_roundw
                  case rel => exact ⟨k + 1, B, pb, cb, q6, by omega, by omega, by go_num, rfl, by omega, T5, hsB, hr5, G5⟩
                  case measure => simp [intOf]; omega
                · obtain rfl : k = 3 := by omega
                  go_wp2
                  go_roundw
                  case rel => exact ⟨n + 1, A, pa, ca, q6, by omega, by omega, by go_num, rfl, by omega, T, hsm, hrk, G⟩
                  case measure => simp [intOf]; omega
            · have e4' : (x4 == 0) = false := by simpa using e4
              go_wp2
              go_ret
              exact ⟨_, A, q5 + 1, rfl, by omega, hsm, T, by omega, hr4, G⟩
          · obtain rfl : n = 40 := by omega
            go_wp2
            go_ret
            exact ⟨_, A, q5, rfl, by omega, hsm, T, by omega, hrn, G⟩
      have e1' : (x3 == 1) = false := by simpa using e1
      go_wp2
      go_ret
      exact ⟨_, A, q3, rfl, by omega, hsm, T, by omega, hr3, G⟩

/-- Drawn versions, which can be read; nothing old has turned. -/
def DrawnChain (w : World) (e : Ending) (w' : World) : Prop := ∃ (l : List Mv) (a : Option Addr) (c : Nat), e = .returned (.slice a l.length c) ∧ l.length ≤ 140 ∧ Small l ∧ Vers w' a c l ∧ Below w.heap.size w w'
def DrawnChainKey (w : World) (e : Ending) (w' : World) : Prop := ∃ (l : List Mv) (a : Option Addr) (c : Nat) (key : Int), e = .returned (.tuple #[.slice a l.length c, .int .i64 key]) ∧ l.length ≤ 140 ∧ Small l ∧ Vers w' a c l ∧ Below w.heap.size w w'

end Go.Proofs.Ythciikogogkfcaa
