/- The draw of a site and stamps. -/
import Derived.Test.YtegdkjppdiegdaaDraw2
namespace Go.Proofs.Ytegdkjppdiegdaa
open Go.RowKit
set_option linter.unusedVariables false

theorem infoStamp : (Try.prog.info? 26).map (fun i => (i.zero, i.size, i.bytes)) = some (some (.agg #[.int .i64 0, .int .i64 0]), 2, 16) := by kernel_rfl
def StBd (l : List (Int × Int)) : Prop := ∀ p ∈ l, -1 ≤ p.1 ∧ p.1 ≤ 10000 ∧ -1 ≤ p.2 ∧ p.2 ≤ 4
theorem StBd.snoc {l : List (Int × Int)} (h : StBd l) {t s : Int} (h1 : -1 ≤ t) (h2 : t ≤ 10000) (h3 : -1 ≤ s) (h4 : s ≤ 4) : StBd (l ++ [(t, s)]) := by
  intro p hp
  rcases List.mem_append.1 hp with hp | hp
  · exact h p hp
  · simp only [List.mem_singleton] at hp; subst hp; exact ⟨h1, h2, h3, h4⟩
theorem stsC_snoc (l : List (Int × Int)) (t s : Int) : stsC (l ++ [(t, s)]) = stsC l ++ [.int .i64 t, .int .i64 s] := by simp [stsC, stC]
/-- What is drawn: a site and stamps. -/
def DrawnNext (w : World) (e : Ending) (w' : World) : Prop :=
  ∃ (site : Int) (l : List (Int × Int)) (a : Option Addr) (cap : Nat), e = .returned (.tuple #[.int .i64 site, .slice a l.length cap]) ∧ -1 ≤ site ∧ site ≤ 5 ∧ l.length ≤ 5 ∧ StBd l ∧ Reads w' a l.length cap (stsC l) ∧ Below w.heap.size w w'
set_option maxHeartbeats 1000000 in
theorem DrawStampNext_any (a : Option Addr) (len cap : Nat) (w : World) (hb : BytesIn w a len cap) :
    Calls Try.prog 28 #[.slice a len cap] w (DrawnNext w) := by
  obtain ⟨i0, hi, hz0, hz1, hz2⟩ := info_parts infoStamp
  go_enter Try.func28, Try.ntmps28
  go_wp2_with fail
  refine (open_any a len cap w hb).mono ?_
  rintro e w1 ⟨rfl, hr1, hb1⟩
  go_wp2_with fail
  have own0 := World.ownsRow_made (base := w.heap.size + 1) (size := 2) (e := 26) w1 #[] 0 hr1.le (by simp) (by simp)
  refine (pick_any 6 _ _ _ _ (hr1.alloc _) (by omega) (by omega) (by omega)).mono ?_
  rintro e w2 ⟨x2, rfl, h2a, h2b, hr2, hg2⟩
  obtain ⟨m, rfl⟩ := Int.eq_ofNat_of_zero_le h2a
  have own0 := own0.kept hg2 (by right; simp [Value.ownBlock]; have := hr1.le; omega)
  have hb2 := below_grown (below_alloc hb1 _) hg2 (Nat.le_refl _)
  have hm5 : m ≤ 5 := by omega
  clear h2a h2b
  go_wp2_with fail
  go_loopw [5, 6] (fun v n wr => ∃ (l : List (Int × Int)) (m q : Nat), m + l.length ≤ 5 ∧ n = .int .i64 m ∧ q ≤ 4 * l.length + 1 ∧ StBd l ∧ wr.ownsRow (w.heap.size + 1) 26 2 v l.length (stsC l) ∧ Rd (w.heap.size + 1) wr w.heap.size q ∧ Below w.heap.size w wr) (fun _ n _ => (intOf n).toNat)
  case atStart => exact ⟨[], m, 1, by simpa using hm5, rfl, by omega, by simp [StBd], own0, hr2, hb2⟩
  case round =>
    obtain ⟨l, m, q, hml, rfl, hq, hbd, own, hr, hbw⟩ := hrel
    by_cases hlt : 0 < m
    · go_wp2_with fail
      refine (l72Stamp_any _ _ _ _ hr (by omega)).mono ?_
      rintro e w3 ⟨t, s, q3, rfl, ht1, ht2, hs1, hs2, hq1, hq2, hr3, hg3⟩
      have own3 := own_grown own hg3 (by omega)
      have hb3 := below_grown hbw hg3 (Nat.le_refl _)
      go_wp2_with (at_builtin; refine wpList_append_own _ rfl _ _ 41 rfl (w.heap.size + 1) 26 i0 _ 2 16 Try.underlying41 hi hz0 hz1 hz2 rfl (by decide) _ _ _ rfl (own3.alloc _) ⟨w3.heap.size, 0, none⟩ 1 1 [.int .i64 t, .int .i64 s] rfl rfl ?c1 ?c2 ?c3 ?c4 ?c5 ?_)
      case c1 => exact cell_two_at _ _ _ _
      case c2 => exact (by decide : ∀ u ∈ [Value.int .i64 0, Value.int .i64 0], u.oneCell' = true) |> fun _ => by intro u hu; simp at hu; rcases hu with rfl | rfl <;> rfl
      case c3 => unfold maxLen; omega
      case c4 => omega
      case c5 => have := hr3.le; simp; omega
      intro v' w4 own4 hgr _
      have hle3 := hr3.le
      have hr4 := (hr3.alloc _).belowN (grown_belowN hgr (by simp; omega) (fun k hk => (own3.lt k hk).1))
      have hb4 := below_app (below_alloc hb3 _) (own3.alloc _) hgr (by omega) (by simp; omega)
      rw [← stsC_snoc] at own4
      have hbd4 := hbd.snoc ht1 ht2 hs1 hs2
      clear hgr own3 own hr3 hb3 hg3
      go_wp2
      go_roundw
      case rel =>
        have ho : w4.ownsRow (w.heap.size + 1) 26 2 v' (l ++ [(t, s)]).length (stsC (l ++ [(t, s)])) := by simpa using own4
        exact ⟨l ++ [(t, s)], m - 1, q3, by simp; omega, by go_num, by simp; omega, hbd4, ho, hr4, hb4⟩
      case measure => simp [intOf]; omega
    · obtain rfl : m = 0 := by omega
      obtain ⟨a', cap', rfl, hrd⟩ := Reads.of_owns own
      go_wp2_with fail
      refine (pick_any 7 _ _ _ _ hr (by omega) (by omega) (by omega)).mono ?_
      rintro e w3 ⟨x3, rfl, h3a, h3b, hr3, hg3⟩
      have own3 := own_grown own hg3 (by omega)
      have hb3 := below_grown hbw hg3 (Nat.le_refl _)
      obtain ⟨a2, cap2, e2, hrd3⟩ := Reads.of_owns own3
      simp only [Value.slice.injEq] at e2
      obtain ⟨rfl, -, rfl⟩ := e2
      go_wp2_with fail
      go_ret2
      exact ⟨_, l, a', cap', rfl, by omega, by omega, by omega, hbd, hrd3, hb3⟩

end Go.Proofs.Ytegdkjppdiegdaa
