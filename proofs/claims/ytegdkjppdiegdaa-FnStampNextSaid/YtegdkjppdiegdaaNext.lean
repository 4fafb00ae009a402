/- The next stamp: the program's function and the reference's give what the plain function gives. -/
import Derived.Test.YtegdkjppdiegdaaStampW
import Derived.Lib.Hide
namespace Go.Proofs.Ytegdkjppdiegdaa
open Go.RowKit
set_option linter.unusedVariables false

def okAll (l : List (Int × Int)) : Bool := l.all fun p => stampOkB p.1 p.2
def mx (m t : Int) : Int := if m < t then t else m
def lastT (l : List (Int × Int)) : Int := l.foldl (fun m p => mx m p.1) 0
def nextR (site : Int) (l : List (Int × Int)) : (Int × Int) × Bool := if okAll l = true ∧ inB site 0 3 = true ∧ lastT l ≠ 9999 then ((lastT l + 1, site), true) else ((0, 0), false)
theorem okAll_take (l : List (Int × Int)) (k : Nat) (h : k < l.length) : okAll (l.take (k + 1)) = (okAll (l.take k) && stampOkB l[k].1 l[k].2) := by
  simp only [okAll, List.take_succ_eq_append_getElem h, List.all_append, List.all_cons, List.all_nil, Bool.and_true]
theorem lastT_take (l : List (Int × Int)) (k : Nat) (h : k < l.length) : lastT (l.take (k + 1)) = mx (lastT (l.take k)) l[k].1 := by
  simp only [lastT, List.take_succ_eq_append_getElem h, List.foldl_append, List.foldl_cons, List.foldl_nil]
theorem okAll_bad (l : List (Int × Int)) (k : Nat) (h : k < l.length) (hb : stampOkB l[k].1 l[k].2 = false) : okAll l = false := by
  simp only [okAll, List.all_eq_false]
  exact ⟨l[k], List.getElem_mem _, by simp [hb]⟩
theorem stampOkB_iff {t s : Int} : stampOkB t s = true ↔ (1 ≤ t ∧ t ≤ 9999) ∧ (0 ≤ s ∧ s ≤ 3) := by simp [stampOkB, inB]
theorem lastT_bd (l : List (Int × Int)) (h : okAll l = true) : 0 ≤ lastT l ∧ lastT l ≤ 9999 := by
  suffices H : ∀ (m : Int), 0 ≤ m ∧ m ≤ 9999 → 0 ≤ l.foldl (fun m p => mx m p.1) m ∧ l.foldl (fun m p => mx m p.1) m ≤ 9999 from H 0 (by omega)
  induction l with
  | nil => intro m hm; exact hm
  | cons p l ih =>
    intro m hm
    simp only [okAll, List.all_cons, Bool.and_eq_true] at h
    have hp := stampOkB_iff.1 h.1
    have hm' : 0 ≤ mx m p.1 ∧ mx m p.1 ≤ 9999 := by unfold mx; split <;> omega
    exact ih h.2 _ hm'
/-- What the next stamp comes to. -/
def NextPost (site : Int) (l : List (Int × Int)) (w : World) (e : Ending) (w' : World) : Prop :=
  e = .returned (.tuple #[.agg #[.int .i64 (nextR site l).1.1, .int .i64 (nextR site l).1.2], .bool (nextR site l).2]) ∧ Below w.heap.size w w'

set_option maxHeartbeats 1000000 in
theorem stampNext_impl (site : Int) (l : List (Int × Int)) (a : Option Addr) (cap : Nat) (w : World) (hr : Reads w a l.length cap (stsC l)) (hl : l.length ≤ 1048577) :
    Calls Try.prog 30 #[.int .i64 site, .slice a l.length cap] w (NextPost site l w) := by
  go_enter Try.func30, Try.ntmps30
  go_wp2
  go_loopw [6, 11] (fun t i wr => ∃ k : Nat, k ≤ l.length ∧ i = .int .i64 k ∧ okAll (l.take k) = true ∧ t = .int .i64 (lastT (l.take k)) ∧ Below (w.alloc (.cells #[.int .i64 0, .int .i64 0] 26)).heap.size (w.alloc (.cells #[.int .i64 0, .int .i64 0] 26)) wr) (fun _ i _ => l.length - (intOf i).toNat)
  case atStart => exact ⟨0, Nat.zero_le _, rfl, rfl, rfl, Below.refl _ _⟩
  case round =>
    obtain ⟨k, hk, rfl, hok, rfl, HB⟩ := hrel
    obtain ⟨hc, hf, hzl, hzle⟩ := bcell HB
    have hbd := lastT_bd _ hok
    obtain ⟨hb0, hb1⟩ := hbd
    by_cases hlt : k < l.length
    · have hr' := hr.below (below_after (below_alloc (Below.refl _ _) _) HB)
      obtain ⟨_, _, h3⟩ := hr'
      obtain ⟨b, off, rfl, hbl, hcell⟩ := h3 (stsC_ne (by omega))
      obtain ⟨g0, g1⟩ := stsC_get l k hlt
      have c0 := hcell _ _ g0
      have c1 := hcell _ _ g1
      rw [← Nat.add_assoc] at c1
      have eok := okAll_take l k hlt
      have elast := lastT_take l k hlt
      have HE : Hid (okAll (l.take (k + 1)) = (okAll (l.take k) && stampOkB l[k].1 l[k].2) ∧ lastT (l.take (k + 1)) = mx (lastT (l.take k)) l[k].1) := ⟨eok, elast⟩
      clear eok elast hcell g0 g1 h3
      go_wp2_with fail
      refine (stampOk_impl _ _ _).mono ?_
      rintro e w2 ⟨rfl, hb2⟩
      have HB2 := below_after HB (below_after (below_alloc (Below.refl _ _) _) hb2)
      have HBw := below_after (below_alloc (Below.refl _ _) _) HB2
      have hz := HB.size
      simp only [World.size_alloc] at hz
      have B0 := ((Blk.new w #[.int .i64 0, .int .i64 0] 26).below HB (by simp)).alloc (.cells #[.int .i64 l[k].1, .int .i64 l[k].2] 26)
      have B1 := Blk.new wr #[.int .i64 l[k].1, .int .i64 l[k].2] 26
      have B0 := B0.below hb2 B0.lt
      have B1 := B1.below hb2 B1.lt
      obtain ⟨k00, k01, kf0, kl0⟩ := B0.two
      obtain ⟨k10, k11, kf1, kl1⟩ := B1.two
      by_cases hs : stampOkB l[k].1 l[k].2 = true
      · go_wp2
        all_goals
          go_roundw
          case rel =>
            exact ⟨k + 1, by omega, by go_num, by rw [HE.out.1, hok, hs]; rfl, by rw [HE.out.2]; rfl, HB2⟩
          case measure => simp [intOf]; omega
      · have hs' : stampOkB l[k].1 l[k].2 = false := by simpa using hs
        have hbad := okAll_bad l k hlt hs'
        go_wp2
        exact bodyPost_ret (v := .tuple #[.agg #[.int .i64 0, .int .i64 0], .bool false]) (by simp [results, Try.results30, go_sem, *]) rfl ⟨by simp [nextR, hbad], below_setb (below_setb HBw (by omega) _) (by omega) _⟩
    · obtain rfl : k = l.length := by omega
      have hBw := below_after (below_alloc (Below.refl _ _) _) HB
      rw [List.take_length] at hok hb0 hb1 ⊢
      have B0 := (Blk.new w #[.int .i64 0, .int .i64 0] 26).below HB (by simp)
      obtain ⟨k00, k01, kf0, kl0⟩ := B0.two
      have hrR : nextR site l = if inB site 0 3 = true ∧ lastT l ≠ 9999 then ((lastT l + 1, site), true) else ((0, 0), false) := by simp [nextR, hok]
      have HR := Lib.hid hrR
      clear hrR
      by_cases hs : inB site 0 3 = true
      · by_cases h9 : lastT l = 9999
        · have h9' : (lastT l == 9999) = true := by simp [h9]
          go_wp2_with (first | (go_at_call 38; refine (isSite_impl _ _).mono ?_; rintro e w1 ⟨rfl, rfl⟩))
          exact bodyPost_ret (v := .tuple #[.agg #[.int .i64 0, .int .i64 0], .bool false]) (by simp [results, Try.results30, go_sem, *]) rfl ⟨by rw [HR.out, if_neg (by simp [h9])], below_setb (below_setb hBw (by omega) _) (by omega) _⟩
        · have h9' : (lastT l == 9999) = false := by simp [h9]
          go_wp2_with (first | (go_at_call 38; refine (isSite_impl _ _).mono ?_; rintro e w1 ⟨rfl, rfl⟩))
          exact bodyPost_ret (v := .tuple #[.agg #[.int .i64 (lastT l + 1), .int .i64 site], .bool true]) (by simp [results, Try.results30, go_sem, *]) rfl ⟨by rw [HR.out, if_pos ⟨hs, h9⟩], below_setb (below_setb hBw (by omega) _) (by omega) _⟩
      · have hs' : inB site 0 3 = false := by simpa using hs
        go_wp2_with (first | (go_at_call 38; refine (isSite_impl _ _).mono ?_; rintro e w1 ⟨rfl, rfl⟩))
        exact bodyPost_ret (v := .tuple #[.agg #[.int .i64 0, .int .i64 0], .bool false]) (by simp [results, Try.results30, go_sem, *]) rfl ⟨by rw [HR.out, if_neg (by simp [hs'])], below_setb (below_setb hBw (by omega) _) (by omega) _⟩

set_option maxHeartbeats 1000000 in
theorem stampNext_spec (site : Int) (l : List (Int × Int)) (a : Option Addr) (cap : Nat) (w : World) (hr : Reads w a l.length cap (stsC l)) (hl : l.length ≤ 1048577) :
    Calls Try.prog 29 #[.int .i64 site, .slice a l.length cap] w (NextPost site l w) := by
  by_cases hs : inB site 0 3 = true
  case neg =>
    have hs' : inB site 0 3 = false := by simpa using hs
    have B0 := Blk.new w #[.int .i64 0, .int .i64 0] 26
    go_enter Try.func29, Try.ntmps29
    go_wp2_with (first | (go_at_call 36; refine (isSite_spec _ _).mono ?_; rintro e w1 ⟨rfl, rfl⟩))
    exact bodyPost_ret (v := .tuple #[.agg #[.int .i64 0, .int .i64 0], .bool false]) (by simp [results, Try.results29, go_sem, *]) rfl ⟨by simp [nextR, hs'], by repeat (first | exact Below.refl _ _ | refine below_alloc ?_ _)⟩
  go_enter Try.func29, Try.ntmps29
  go_wp2_with (first | (go_at_call 36; refine (isSite_spec _ _).mono ?_; rintro e w1 ⟨rfl, rfl⟩))
  go_loopw [6, 7] (fun t i wr => ∃ k : Nat, k ≤ l.length ∧ i = .int .i64 k ∧ okAll (l.take k) = true ∧ t = .int .i64 (lastT (l.take k)) ∧ Below (w.alloc (.cells #[.int .i64 0, .int .i64 0] 26)).heap.size (w.alloc (.cells #[.int .i64 0, .int .i64 0] 26)) wr) (fun _ i _ => l.length - (intOf i).toNat)
  case atStart => exact ⟨0, Nat.zero_le _, rfl, rfl, rfl, Below.refl _ _⟩
  case round =>
    obtain ⟨k, hk, rfl, hok, rfl, HB⟩ := hrel
    have hBw := below_after (below_alloc (Below.refl _ _) _) HB
    have B0 := (Blk.new w #[.int .i64 0, .int .i64 0] 26).below HB (by simp)
    have hbd := lastT_bd _ hok
    obtain ⟨hb0, hb1⟩ := hbd
    by_cases hlt : k < l.length
    · have hr' := hr.below hBw
      obtain ⟨_, _, h3⟩ := hr'
      obtain ⟨b, off, rfl, hbl, hcell⟩ := h3 (stsC_ne (by omega))
      obtain ⟨g0, g1⟩ := stsC_get l k hlt
      have c0 := hcell _ _ g0
      have c1 := hcell _ _ g1
      rw [← Nat.add_assoc] at c1
      have eok := okAll_take l k hlt
      have elast := lastT_take l k hlt
      have HE : Hid (okAll (l.take (k + 1)) = (okAll (l.take k) && stampOkB l[k].1 l[k].2) ∧ lastT (l.take (k + 1)) = mx (lastT (l.take k)) l[k].1) := ⟨eok, elast⟩
      clear eok elast hcell g0 g1 h3
      go_wp2_with fail
      refine (stampOk_spec _ _ _).mono ?_
      rintro e w2 ⟨rfl, hb2⟩
      have HB2 := below_after HB hb2
      have HBw := below_after (below_alloc (Below.refl _ _) _) HB2
      have B0 := B0.below hb2 B0.lt
      obtain ⟨k00, k01, kf0, kl0⟩ := B0.two
      have d0 : w2.cell? ⟨b, off + k * 2, none⟩ = some (.int .i64 l[k].1) := by rw [hb2.cell (p := ⟨b, off + k * 2, none⟩) hbl]; exact c0
      by_cases hs2 : stampOkB l[k].1 l[k].2 = true
      · by_cases hm : lastT (l.take k) < l[k].1
        all_goals
          go_wp2
          go_roundw
          case rel => exact ⟨k + 1, by omega, by go_num, by rw [HE.out.1, hok, hs2]; rfl, by rw [HE.out.2]; simp [mx, hm] <;> omega, HB2⟩
          case measure => simp [intOf]; omega
      · have hs' : stampOkB l[k].1 l[k].2 = false := by simpa using hs2
        have hbad := okAll_bad l k hlt hs'
        go_wp2
        exact bodyPost_ret (v := .tuple #[.agg #[.int .i64 0, .int .i64 0], .bool false]) (by simp [results, Try.results29, go_sem, *]) rfl ⟨by simp [nextR, hbad], below_setb (below_setb HBw (by omega) _) (by omega) _⟩
    · obtain rfl : k = l.length := by omega
      rw [List.take_length] at hok hb0 hb1 ⊢
      obtain ⟨k00, k01, kf0, kl0⟩ := B0.two
      have hrR : nextR site l = if lastT l ≠ 9999 then ((lastT l + 1, site), true) else ((0, 0), false) := by simp [nextR, hok, hs]
      have HR := Lib.hid hrR
      clear hrR
      by_cases h9 : lastT l = 9999
      · have h9' : (9999 : Int) ≤ lastT l := by omega
        have HH := Lib.hid h9
        clear h9
        go_wp2
        exact bodyPost_ret (v := .tuple #[.agg #[.int .i64 0, .int .i64 0], .bool false]) (by simp [results, Try.results29, go_sem, *]) rfl ⟨by rw [HR.out, if_neg (by simp [HH.out])], below_setb (below_setb hBw (by omega) _) (by omega) _⟩
      · have h9' : lastT l < (9999 : Int) := by omega
        have HH := Lib.hid h9
        clear h9
        go_wp2
        exact bodyPost_ret (v := .tuple #[.agg #[.int .i64 (lastT l + 1), .int .i64 site], .bool true]) (by simp [results, Try.results29, go_sem, *]) rfl ⟨by rw [HR.out, if_pos HH.out], below_setb (below_setb hBw (by omega) _) (by omega) _⟩

end Go.Proofs.Ytegdkjppdiegdaa
