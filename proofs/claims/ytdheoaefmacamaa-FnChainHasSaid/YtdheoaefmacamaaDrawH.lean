/- Drawn versions and deps, that some of the versions stand for. -/
import Derived.Test.YtdheoaefmacamaaDrawC2
import Derived.Test.YtdheoaefmacamaaDrawD
namespace Go.Proofs.Ytdheoaefmacamaa
open Go.RowKit Go.Deep
set_option linter.unusedVariables false

def DrawnChainDeps (w : World) (e : Ending) (w' : World) : Prop := ∃ (l : List Mv) (a : Option Addr) (c : Nat) (ds : List Dp) (p : Option Addr) (k : Nat), e = .returned (.tuple #[.slice a l.length c, .slice p ds.length k]) ∧ l.length ≤ 140 ∧ Small l ∧ ds.length ≤ 20 ∧ Vers w' a c l ∧ Reads w' p ds.length k (dpsC ds) ∧ Below w.heap.size w w'
theorem joinF_len (a b : List Dp) : (joinF a b).length ≤ a.length + b.length := by
  unfold joinF
  induction b generalizing a with
  | nil => simp
  | cons d b ih =>
    rw [List.foldl_cons, List.length_cons]
    have h1 := ih (putF a d)
    have h2 : (putF a d).length ≤ a.length + 1 := by
      clear h1 ih
      induction a with
      | nil => simp [putF]
      | cons e a ih => rw [putF]; split <;> (try split) <;> simp only [List.length_cons] at * <;> omega
    omega
theorem joinR_len (a b : List Dp) : (joinR a b).length ≤ a.length + b.length := by
  unfold joinR
  split
  · exact joinF_len a b
  · simp
set_option maxHeartbeats 2000000 in
theorem DrawChainHas_any (a : Option Addr) (len cap : Nat) (w : World) (hb : BytesIn w a len cap) :
    Calls Try.prog 13 #[.slice a len cap] w (DrawnChainDeps w) := by
  go_enter Try.func13, Try.ntmps13
  go_wp2_with fail
  refine (open_any a len cap w hb).mono ?_
  rintro e w1 ⟨rfl, hr1, hb1⟩
  have hN := hr1.le
  go_wp2_with fail
  refine (l72Chain_any 12 _ _ _ _ hr1 (by omega) (by omega) (by omega)).mono ?_
  rintro e w2 ⟨v2, l2, q2, rfl, hl2, hs2, T2, hq2, hr2, hg2⟩
  obtain ⟨p2, c2, rfl, _⟩ := T2.open_
  have sz2 := hg2.size
  have hN2 := hr2.lt
  have G2 := below_grown hb1 hg2 (Nat.le_refl _)
  have own0 := World.ownsRow_made (base := w2.heap.size) (size := 3) (e := 48) w2 #[] 0 (Nat.le_refl _) (by simp) (by simp)
  have T2 := T2.below (below_box w2 (.cells #[] 48))
  have hr2 := hr2.alloc (.cells #[] 48)
  have G2 := below_alloc G2 (.cells #[] 48)
  go_wp2_with fail
  refine (pick_any 4 _ _ _ _ hr2 (by omega) (by omega) (by omega)).mono ?_
  rintro e w3 ⟨x3, rfl, h3a, h3b, hr3, hg3⟩
  obtain ⟨m, rfl⟩ := Int.eq_ofNat_of_zero_le h3a
  have hm3 : m ≤ 3 := by omega
  have T3 := T2.grown hg3 (by omega)
  have own3 := own_grown own0 hg3 (by omega)
  have G3 := below_grown G2 hg3 (Nat.le_refl _)
  have sz3 : w2.heap.size + 1 ≤ w3.heap.size := by have := hg3.size; rw [World.size_alloc] at this; exact this
  clear h3a h3b own0
  go_wp2
  go_loopw [6, 7, 8] (fun dv n _ wr => ∃ (ds : List Dp) (m q1 : Nat) (p : Option Addr) (k : Nat), ds.length + m ≤ 3 ∧ n = .int .i64 m ∧ dv = .slice p ds.length k ∧ q1 + m ≤ q2 + 4 ∧ wr.ownsRow w2.heap.size 48 3 (.slice p ds.length k) ds.length (dpsC ds) ∧ OwnVers w1.heap.size wr (.slice p2 l2.length c2) l2 ∧ Rd (w.heap.size + 1) wr w.heap.size q1 ∧ Below w.heap.size w wr ∧ w2.heap.size ≤ wr.heap.size) (fun _ n _ _ => (intOf n).toNat)
  case atStart => exact ⟨[], m, q2 + 1, _, _, by simpa using hm3, rfl, rfl, by omega, own3, T3, hr3, G3, by omega⟩
  case round =>
    obtain ⟨ds, m, q1, p, k, hm, rfl, rfl, hq1, own, T, hr, G, szr⟩ := hrel
    by_cases hlt : 0 < m ∧ 0 < l2.length
    · obtain ⟨hlt, h0⟩ := hlt
      have hmi : (0 : Int) < (m : Int) := by omega
      have hli : (0 : Int) < (l2.length : Int) := by omega
      go_wp2_with fail
      refine (pick_any l2.length _ _ _ _ hr (by omega) (by omega) (by omega)).mono ?_
      rintro e w4 ⟨x4, rfl, h4a, h4b, hr4, hg4⟩
      have T4 := T.grown hg4 (by omega)
      have own4 := own_grown own hg4 (by omega)
      have sz4 := hg4.size
      have G4 := below_grown G hg4 (by omega)
      obtain ⟨j, rfl⟩ := Int.eq_ofNat_of_zero_le h4a
      have hj : j < l2.length := by omega
      obtain ⟨b, off, hab, hbl, c0, c1, c2', c3, c4, c5, c6⟩ := T4.vers.at_ j hj
      subst hab
      have BV := Blk.new w4 #[.int .i64 l2[j].v.key, .int .i64 l2[j].v.time, .int .i64 l2[j].v.site, .int .i64 l2[j].v.val, .int .i64 l2[j].v.client, .int .i64 l2[j].v.call, .slice l2[j].a l2[j].v.deps.length l2[j].c] 35
      have hbx := below_box w4 (.cells #[.int .i64 l2[j].v.key, .int .i64 l2[j].v.time, .int .i64 l2[j].v.site, .int .i64 l2[j].v.val, .int .i64 l2[j].v.client, .int .i64 l2[j].v.call, .slice l2[j].a l2[j].v.deps.length l2[j].c] 35)
      have T5 := T4.below hbx
      have own5 := own_below own4 hbx
      have hr5 := hr4.below hbx
      have G5 := below_after G4 hbx
      obtain ⟨y0, y1, y2, y3, y4, y5, y6, yf, yl⟩ := BV.seven
      go_wp2_with fail
      refine (DepsPut_spec ds (depV l2[j].v) p k _ (Reads.own own5) (by omega)).mono ?_
      rintro e w6 ⟨v6, rfl, own6, hb6⟩
      have hlen := putR_len ds (depV l2[j].v)
      obtain ⟨p6, k6, rfl, rd6⟩ := Reads.of_owns own6
      have own6 := own_base own6 (show w2.heap.size ≤ _ by rw [World.size_alloc]; omega)
      have sz6 := hb6.size
      rw [World.size_alloc] at sz6
      have T6 := T5.below hb6
      have hr6 := hr5.below hb6
      have G6 := below_after G5 hb6
      go_wp2
      go_roundw
      case rel => exact ⟨putR ds (depV l2[j].v), m - 1, _, p6, k6, by omega, by go_num, rfl, by omega, own6, T6, hr6, G6, by omega⟩
      case measure => simp [intOf]; omega
    · by_cases h0 : 0 < m
      · obtain rfl : l2 = [] := List.eq_nil_of_length_eq_zero (by omega)
        have hmi : (0 : Int) < (m : Int) := by omega
        clear hlt
        go_wp2_with fail
        refine (pick_any 3 _ _ _ _ hr (by omega) (by omega) (by omega)).mono ?_
        rintro e w4 ⟨x4, rfl, h4a, h4b, hr4, hg4⟩
        have T4 := T.grown hg4 (by omega)
        have own4 := own_grown own hg4 (by omega)
        have sz4 := hg4.size
        have G4 := below_grown G hg4 (Nat.le_refl _)
        by_cases e0 : x4 = 0
        · subst e0
          go_wp2_with fail
          refine (l72Deps_any _ _ _ _ hr4 (by omega)).mono ?_
          rintro e w5 ⟨d5, v5, q5, rfl, hd5, own5, hq5, hr5, hg5⟩
          obtain ⟨p5, k5, rfl, rd5⟩ := Reads.of_owns own5
          have T5 := T4.grown hg5 (by omega)
          have ownx := own_grown own4 hg5 (by omega)
          have G5 := below_grown G4 hg5 (Nat.le_refl _)
          go_wp2_with fail
          refine (DepsJoin_spec ds d5 p p5 k k5 _ (Reads.own ownx) rd5 (by omega) (by omega)).mono ?_
          rintro e w6 ⟨v6, rfl, own6, hb6⟩
          have hjl := joinR_len ds d5
          obtain ⟨p6, k6, rfl, rd6⟩ := Reads.of_owns own6
          go_wp2
          go_ret2
          exact ⟨[], p2, c2, joinR ds d5, p6, k6, rfl, hl2, hs2, by omega, (T5.below hb6).vers, rd6, below_after G5 hb6⟩
        · have e0' : (x4 == 0) = false := by simpa using e0
          go_wp2
          go_ret2
          exact ⟨[], p2, c2, ds, p, k, rfl, hl2, hs2, by omega, T4.vers, Reads.own own4, G4⟩
      · obtain rfl : m = 0 := by omega
        clear hlt
        go_wp2_with fail
        refine (pick_any 3 _ _ _ _ hr (by omega) (by omega) (by omega)).mono ?_
        rintro e w4 ⟨x4, rfl, h4a, h4b, hr4, hg4⟩
        have T4 := T.grown hg4 (by omega)
        have own4 := own_grown own hg4 (by omega)
        have sz4 := hg4.size
        have G4 := below_grown G hg4 (Nat.le_refl _)
        by_cases e0 : x4 = 0
        · subst e0
          go_wp2_with fail
          refine (l72Deps_any _ _ _ _ hr4 (by omega)).mono ?_
          rintro e w5 ⟨d5, v5, q5, rfl, hd5, own5, hq5, hr5, hg5⟩
          obtain ⟨p5, k5, rfl, rd5⟩ := Reads.of_owns own5
          have T5 := T4.grown hg5 (by omega)
          have ownx := own_grown own4 hg5 (by omega)
          have G5 := below_grown G4 hg5 (Nat.le_refl _)
          go_wp2_with fail
          refine (DepsJoin_spec ds d5 p p5 k k5 _ (Reads.own ownx) rd5 (by omega) (by omega)).mono ?_
          rintro e w6 ⟨v6, rfl, own6, hb6⟩
          have hjl := joinR_len ds d5
          obtain ⟨p6, k6, rfl, rd6⟩ := Reads.of_owns own6
          go_wp2
          go_ret2
          exact ⟨l2, p2, c2, joinR ds d5, p6, k6, rfl, hl2, hs2, by omega, (T5.below hb6).vers, rd6, below_after G5 hb6⟩
        · have e0' : (x4 == 0) = false := by simpa using e0
          go_wp2
          go_ret2
          exact ⟨l2, p2, c2, ds, p, k, rfl, hl2, hs2, by omega, T4.vers, Reads.own own4, G4⟩

end Go.Proofs.Ytdheoaefmacamaa
