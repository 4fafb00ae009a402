/- The draws of dependencies: what is handed back, and what turns. -/
import Derived.Test.YthciikogogkfcaaDraw1
import Derived.Test.YthciikogogkfcaaPutW2
namespace Go.Proofs.Ythciikogogkfcaa
open Go.RowKit Go.Deep
set_option linter.unusedVariables false

theorem only_app {a w w' : World} {g M k n : Nat} {T : TypeId} {v : Value} {xs : List Value} (h : a.grownBy w (some g)) (own : w.ownsRow M T k v n xs) (hg : w.grownBy w' v.ownBlock) (hM : a.heap.size ≤ M) : a.grownBy w' (some g) :=
  ⟨hg.os.trans h.os, hg.tape.trans h.tape, hg.output.trans h.output, Nat.le_trans h.size hg.size, fun i hi hn => (hg.block i (Nat.lt_of_lt_of_le hi h.size) (fun e => by have := (own.lt i e.symm).1; omega)).trans (h.block i hi hn)⟩
theorem rd_app {w w' : World} {N M g q k n : Nat} {T : TypeId} {v : Value} {xs : List Value} (h : Rd N w g q) (own : w.ownsRow M T k v n xs) (hg : w.grownBy w' v.ownBlock) (hM : N ≤ M) : Rd N w' g q :=
  h.belowN (grown_belowN hg h.le (fun j hj => Nat.le_trans hM (own.lt j hj).1))
/-- A dependency is drawn. -/
def DrawnDep (N : Nat) (w : World) (g q : Nat) (e : Ending) (w' : World) : Prop :=
  ∃ (d : Dp) (q' : Nat), e = .returned (.agg #[.int .i64 d.1, .int .i64 d.2.1, .int .i64 d.2.2]) ∧ 0 ≤ d.1 ∧ d.1 ≤ 5 ∧ 1 ≤ d.2.1 ∧ d.2.1 ≤ 5 ∧ 0 ≤ d.2.2 ∧ d.2.2 ≤ 3 ∧ q' ≤ q + 3 ∧ Rd N w' g q' ∧ w.grownBy w' (some g)
/-- Dependencies are drawn, into memory of the callee's own. -/
def DrawnDeps (N : Nat) (w : World) (g q : Nat) (e : Ending) (w' : World) : Prop :=
  ∃ (l : List Dp) (v : Value) (q' : Nat), e = .returned v ∧ l.length ≤ 5 ∧ w'.ownsRow w.heap.size 32 3 v l.length (dpsC l) ∧ q' ≤ q + 30 ∧ Rd N w' g q' ∧ w.grownBy w' (some g)

set_option maxHeartbeats 1000000 in
theorem l72Dep_any (N g q : Nat) (w : World) (hr : Rd N w g q) (hq : q ≤ 900000) :
    Calls Try.prog 109 #[.pointer (some ⟨g, 0, none⟩)] w (DrawnDep N w g q) := by
  have hNg := hr.lt
  have hNw := hr.le
  go_enter Try.func109, Try.ntmps109
  have G0 := only_refl w (some g)
  go_wp2_with fail
  have B1 := Blk.new w #[.int .i64 0, .int .i64 0, .int .i64 0] 32
  have G0 := only_alloc G0 (.cells #[.int .i64 0, .int .i64 0, .int .i64 0] 32)
  refine (pick_any 6 N g q _ (hr.alloc _) (by omega) (by omega) (by omega)).mono ?_
  rintro e w1 ⟨x1, rfl, h1a, h1b, hr1, hg1⟩
  have B1 := B1.grown hg1 (by omega)
  have G0 := grown_trans' G0 hg1
  have z1 := G0.size
  go_wp2_with fail
  refine (pick_any 5 N g _ _ hr1 (by omega) (by omega) (by omega)).mono ?_
  rintro e w2 ⟨x2, rfl, h2a, h2b, hr2, hg2⟩
  have B1 := B1.grown hg2 (by omega)
  have G0 := grown_trans' G0 hg2
  have z2 := G0.size
  go_wp2_with fail
  refine (pick_any 4 N g _ _ hr2 (by omega) (by omega) (by omega)).mono ?_
  rintro e w3 ⟨x3, rfl, h3a, h3b, hr3, hg3⟩
  have B1 := B1.grown hg3 (by omega)
  have G0 := grown_trans' G0 hg3
  have z3 := G0.size
  obtain ⟨k0, k1, k2, kf, kl⟩ := B1.three
  go_wp2_with fail
  exact bodyPost_ret (v := .agg #[.int .i64 x1, .int .i64 (1 + x2), .int .i64 x3]) (by simp [results, Try.results109, go_sem, *]) rfl ⟨(x1, 1 + x2, x3), q + 3, rfl, by omega, by omega, by show (1 : Int) ≤ 1 + x2; omega, by show 1 + x2 ≤ 5; omega, by omega, by show x3 ≤ 3; omega, by omega, by repeat (first | exact hr3 | refine Rd.setb ?_ (by omega) _), by repeat (first | exact G0 | refine only_setb ?_ (by omega) _)⟩

set_option maxHeartbeats 2000000 in
theorem l72Deps_any (N g q : Nat) (w : World) (hr : Rd N w g q) (hq : q ≤ 800000) :
    Calls Try.prog 116 #[.pointer (some ⟨g, 0, none⟩)] w (DrawnDeps N w g q) := by
  obtain ⟨i0, hi, hz0, hz1, hz2⟩ := info_parts infoDep
  have hNg := hr.lt
  have hNw := hr.le
  have own0 := World.ownsRow_made (base := w.heap.size) (size := 3) (e := 32) w #[] 0 (Nat.le_refl _) (by simp) (by simp)
  have G0 := only_alloc (only_refl w (some g)) (.cells #[] 32)
  go_enter Try.func116, Try.ntmps116
  go_wp2_with fail
  refine (pick_any 5 N g q _ (hr.alloc _) (by omega) (by omega) (by omega)).mono ?_
  rintro e w1 ⟨x1, rfl, h1a, h1b, hr1, hg1⟩
  obtain ⟨m, rfl⟩ := Int.eq_ofNat_of_zero_le h1a
  have hm4 : m ≤ 4 := by omega
  have own1 := own_grown own0 hg1 (by omega)
  have G1 := grown_trans' G0 hg1
  clear h1a h1b
  go_wp2
  go_loopw [3, 4] (fun v n wr => ∃ (l : List Dp) (m q1 : Nat), m + l.length ≤ 4 ∧ n = .int .i64 m ∧ m ≤ 4 ∧ q1 + 3 * m ≤ q + 13 ∧ wr.ownsRow w.heap.size 32 3 v l.length (dpsC l) ∧ Rd N wr g q1 ∧ w.grownBy wr (some g)) (fun _ n _ => (intOf n).toNat)
  case atStart => exact ⟨[], m, q + 1, by simpa using hm4, rfl, hm4, by omega, own1, hr1, G1⟩
  case round =>
    obtain ⟨l, m, q1, hml, rfl, hm, hq1, own, hr2, G2⟩ := hrel
    have sz2 := G2.size
    by_cases hlt : 0 < m
    · go_wp2_with fail
      refine (l72Dep_any N g q1 _ hr2 (by omega)).mono ?_
      rintro e w3 ⟨d, q3, rfl, hd0, hd1, hd2, hd3, hd4, hd5, hq3, hr3, hg3⟩
      have own3 := own_grown own hg3 (by omega)
      have G3 := grown_trans' G2 hg3
      have sz3 := G3.size
      obtain ⟨p3, c3, rfl, rd3⟩ := Reads.of_owns own3
      go_wp2_with fail
      refine (DepsPut_spec l d p3 c3 _ rd3 (by omega)).mono ?_
      rintro e w4 ⟨v4, rfl, own4, hb4⟩
      have hlen := putR_len l d
      have own4 := own_base own4 sz3
      have hr4 := hr3.below hb4
      have G4 := grown_trans' G3 (grown_of_below hb4 _)
      go_wp2
      go_roundw
      case rel => exact ⟨putR l d, m - 1, q3, by omega, by go_num, by omega, by omega, own4, hr4, G4⟩
      case measure => simp [intOf]; omega
    · obtain rfl : m = 0 := by omega
      go_wp2_with fail
      refine (pick_any 14 N g q1 _ hr2 (by omega) (by omega) (by omega)).mono ?_
      rintro e w3 ⟨x3, rfl, h3a, h3b, hr3, hg3⟩
      have own3 := own_grown own hg3 (by omega)
      have G3 := grown_trans' G2 hg3
      have sz3 := G3.size
      by_cases c0 : x3 = 0
      · subst c0
        go_wp2_with fail
        refine (pick_any 7 N g _ _ hr3 (by omega) (by omega) (by omega)).mono ?_
        rintro e w4 ⟨x4, rfl, h4a, h4b, hr4, hg4⟩
        have own4 := own_grown own3 hg4 (by omega)
        have G4 := grown_trans' G3 hg4
        go_wp2_with fail
        refine (l72Stamp_any N g _ _ hr4 (by omega)).mono ?_
        rintro e w5 ⟨t, s, q5, rfl, ht1, ht2, hs1, hs2, hq5, hq6, hr5, hg5⟩
        have own5 := own_grown own4 hg5 (by omega)
        have G5 := grown_trans' G4 hg5
        have sz5 := G5.size
        go_wp2_with (at_builtin; refine wpList_append_own _ rfl (.tmp 20) (.tmp 27) 25 rfl w.heap.size 32 i0 _ 3 24 Try.underlying25 hi hz0 hz1 hz2 rfl (by decide) _ _ _ rfl (own5.alloc _) _ 1 1 [.int .i64 (x4 - 1), .int .i64 t, .int .i64 s] rfl rfl (by exact cell_three_at _ _ _ _ _ (by simp)) (by exact one_three _ _ _) (by unfold maxLen; omega) (by omega) (by simp; omega) ?_)
        intro v6 w6 own6 hg6 _
        have hr6 := rd_app (hr5.alloc _) (own5.alloc _) hg6 (by omega)
        have G6 := only_app (only_alloc G5 _) (own5.alloc _) hg6 (Nat.le_refl _)
        have own7 : w6.ownsRow w.heap.size 32 3 v6 (l ++ [(x4 - 1, t, s)]).length (dpsC (l ++ [(x4 - 1, t, s)])) := by rw [dpsC_snoc]; simpa using own6
        clear own6 hg6
        go_wp2
        go_ret
        exact ⟨_, _, q5, rfl, by simp; omega, own7, by omega, hr6, G6⟩
      · have c0' : (x3 == 0) = false := by simpa using c0
        by_cases c1 : x3 = 1
        · subst c1
          obtain ⟨p3, c3, rfl, rd3⟩ := Reads.of_owns own3
          by_cases hl0 : 0 < l.length
          · go_wp2_with fail
            refine (l72Stamp_any N g _ _ hr3 (by omega)).mono ?_
            rintro e w5 ⟨t, s, q5, rfl, ht1, ht2, hs1, hs2, hq5, hq6, hr5, hg5⟩
            have own5 := own_grown own3 hg5 (by omega)
            have G5 := grown_trans' G3 hg5
            obtain ⟨go, cp, hv, hgo, hgl, hfr, hcl⟩ := own_open own5 hl0
            simp only [Value.slice.injEq] at hv
            obtain ⟨rfl, -, rfl⟩ := hv
            match l, hl0 with
            | d :: l', _ =>
              have y1 := hcl 1 (.int .i64 d.2.1) rfl
              have y2 := hcl 2 (.int .i64 d.2.2) rfl
              have own6 := own_write (own_write own5 1 (.int .i64 t)) 2 (.int .i64 s)
              have own7 : ((w5.setCell ⟨go, 1, none⟩ (.int .i64 t)).setCell ⟨go, 2, none⟩ (.int .i64 s)).ownsRow w.heap.size 32 3 (.slice (some ⟨go, 0, none⟩) (d :: l').length c3) ((d.1, t, s) :: l').length (dpsC ((d.1, t, s) :: l')) := own6
              clear own6 hcl
              go_wp2
              go_ret
              exact ⟨(d.1, t, s) :: l', _, q5, rfl, by have := hml; simp at this ⊢; omega, own7, by omega, (hr5.setb (by omega) _).setb (by omega) _, only_setb (only_setb G5 (by omega) _) (by omega) _⟩
          · go_wp2
            go_ret
            exact ⟨l, _, _, rfl, by omega, own3, by omega, hr3, G3⟩
        · have c1' : (x3 == 1) = false := by simpa using c1
          go_wp2
          go_ret
          exact ⟨l, _, _, rfl, by omega, own3, by omega, hr3, G3⟩

/-- A drawn list, which reads as l; nothing old has turned. -/
def DrawnList (w : World) (e : Ending) (w' : World) : Prop := ∃ (l : List Dp) (a : Option Addr) (cap : Nat), e = .returned (.slice a l.length cap) ∧ l.length ≤ 5 ∧ Reads w' a l.length cap (dpsC l) ∧ Below w.heap.size w w'
def DrawnTwoLists (w : World) (e : Ending) (w' : World) : Prop := ∃ (l m : List Dp) (a b : Option Addr) (ca cb : Nat), e = .returned (.tuple #[.slice a l.length ca, .slice b m.length cb]) ∧ l.length ≤ 5 ∧ m.length ≤ 5 ∧ Reads w' a l.length ca (dpsC l) ∧ Reads w' b m.length cb (dpsC m) ∧ Below w.heap.size w w'
def DrawnListKey (w : World) (e : Ending) (w' : World) : Prop := ∃ (l : List Dp) (a : Option Addr) (cap : Nat) (key : Int), e = .returned (.tuple #[.slice a l.length cap, .int .i64 key]) ∧ l.length ≤ 5 ∧ Reads w' a l.length cap (dpsC l) ∧ Below w.heap.size w w'
def DrawnListDep (w : World) (e : Ending) (w' : World) : Prop := ∃ (l : List Dp) (a : Option Addr) (cap : Nat) (d : Dp), e = .returned (.tuple #[.slice a l.length cap, .agg #[.int .i64 d.1, .int .i64 d.2.1, .int .i64 d.2.2]]) ∧ l.length ≤ 5 ∧ Reads w' a l.length cap (dpsC l) ∧ Below w.heap.size w w'
theorem reads_grown {w w' : World} {N k n cap g : Nat} {T : TypeId} {a : Option Addr} {xs : List Value} (h : w.ownsRow N T k (.slice a n cap) n xs) (hg : w.grownBy w' (some g)) (hn : g < N) : Reads w' a n cap xs := Reads.own (own_grown h hg hn)

end Go.Proofs.Ythciikogogkfcaa
