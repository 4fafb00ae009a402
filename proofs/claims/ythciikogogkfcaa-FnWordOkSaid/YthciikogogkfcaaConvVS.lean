/- Lists of versions handed over, counted and compared by the laws' own functions. -/
import Derived.Test.YthciikogogkfcaaVerO
import Derived.Test.YthciikogogkfcaaConvV
import Derived.Test.YthciikogogkfcaaChainW
namespace Go.Proofs.Ythciikogogkfcaa
open Go.RowKit Go.Deep
set_option linter.unusedVariables false

theorem infoVer : (Try.prog.info? 27).map (fun i => (i.zero, i.size, i.bytes)) = some (some (.agg #[.int .i64 0, .int .i64 0, .int .i64 0, .int .i64 0, .int .i64 0, .int .i64 0, .slice none 0 0]), 7, 72) := by kernel_rfl
/-- How much a list of versions counts for. -/
def sizeM (l : List Mv) : Nat := l.length + sumD l
theorem few_of {l : List Mv} (h : sizeM l ≤ 1048576) : Few l := ⟨by unfold sizeM at h; omega, fun m hm => by have := sumD_mem l m hm; unfold sizeM at h; omega⟩
theorem few_vs {l l' : List Mv} (h : vs l' = vs l) (hf : Few l) : Few l' := by
  have hl : l'.length = l.length := by rw [← vs_len l', h, vs_len]
  refine ⟨by rw [hl]; exact hf.1, fun m hm => ?_⟩
  have : m.v ∈ vs l := by rw [← h]; exact List.mem_map_of_mem hm
  obtain ⟨x, hx, he⟩ := List.mem_map.1 this
  rw [← he]; exact hf.2 x hx

set_option maxHeartbeats 2000000 in
theorem szVerS_laws (l : List Mv) (left : Int) (a : Option Addr) (c : Nat) (w : World) (hvs : Vers w a c l) (h0 : 0 ≤ left) (h1 : left ≤ 1048576) :
    Calls Try.prog 14 #[.slice a l.length c, .int .i64 left] w fun e w' => e = .returned (.int .i64 (szR left (sizeM l))) ∧ Below w.heap.size w w' := by
  have hn : l.length ≤ maxLen := by obtain ⟨h1, h2, _⟩ := hvs.rd; omega
  unfold maxLen at hn
  by_cases h : left < (l.length : Int)
  · have h' : left - (l.length : Int) < 0 := by omega
    have HZ : Hid (szR left (sizeM l) = -1) := by show _ = _; rw [szR, if_pos (by unfold sizeM; omega)]
    go_enter Try.func14, Try.ntmps14
    go_wp2
    go_ret
    exact ⟨by rw [HZ.out]; rfl, Below.refl _ _⟩
  · have h' : (0 : Int) ≤ left - (l.length : Int) := by omega
    go_enter Try.func14, Try.ntmps14
    go_wp2
    go_loopw [1, 5] (fun t i wr => ∃ k : Nat, ∃ q : Int, k ≤ l.length ∧ i = .int .i64 k ∧ t = .int .i64 q ∧ q = left - (l.length : Int) - (sumD (l.take k) : Int) ∧ 0 ≤ q ∧ Below w.heap.size w wr) (fun _ i _ => l.length - (intOf i).toNat)
    case atStart => exact ⟨0, _, Nat.zero_le _, rfl, rfl, by simp [sumD], h', Below.refl _ _⟩
    case round =>
      obtain ⟨k, q, hk, rfl, rfl, hq, hq0, hBw⟩ := hrel
      by_cases hlt : k < l.length
      · have hv := hvs.below hBw
        have hi0 : (0 : Int) ≤ (k : Int) := by omega
        have hi1 : (k : Int) < (l.length : Int) := by omega
        have hsd := sumD_take l k hlt
        have hsl := sumD_take_le l (k + 1)
        have hcap : l[k].v.deps.length ≤ maxLen := by obtain ⟨h1, h2, _⟩ := hv.get k hlt; omega
        have hq1 : q ≤ 1048576 := by omega
        obtain ⟨b, off, hab, hbl, c0, c1, c2, c3, c4, c5, c6⟩ := hv.at_ k hlt
        subst hab
        have HQ := Lib.hid hq
        clear hq
        by_cases hs : q < (l[k].v.deps.length : Int)
        · have hz : szR q l[k].v.deps.length = -1 := by rw [szR, if_pos hs]
          have HZ : Hid (szR left (sizeM l) = -1) := by have := HQ.out; show _ = _; rw [szR, if_pos (by unfold sizeM; omega)]
          have hcall := szVer_laws l[k].v q l[k].a l[k].c wr hq0 hq1 hcap
          rw [hz] at hcall
          clear hz hsd hsl hcap hs
          go_wp2_with fail
          refine hcall.mono ?_
          rintro e w1 ⟨rfl, hb1⟩
          go_wp2
          go_ret
          exact ⟨by rw [HZ.out]; rfl, below_after hBw hb1⟩
        · have hz : szR q l[k].v.deps.length = q - (l[k].v.deps.length : Int) := by rw [szR, if_neg hs]
          have hge : 0 ≤ q - (l[k].v.deps.length : Int) := by omega
          have HN : Hid (q - (l[k].v.deps.length : Int) = left - (l.length : Int) - (sumD (l.take (k + 1)) : Int)) := by have := HQ.out; show _ = _; omega
          have hcall := szVer_laws l[k].v q l[k].a l[k].c wr hq0 hq1 hcap
          rw [hz] at hcall
          clear hz hsd hsl hcap hs
          go_wp2_with fail
          refine hcall.mono ?_
          rintro e w1 ⟨rfl, hb1⟩
          go_wp2
          go_roundw
          case rel => exact ⟨k + 1, _, by omega, by go_num, rfl, HN.out, hge, below_after hBw hb1⟩
          case measure => simp [intOf]; omega
      · obtain rfl : k = l.length := by omega
        rw [List.take_length] at hq
        have HZ : Hid (szR left (sizeM l) = q) := by show _ = _; rw [szR, if_neg (by unfold sizeM; omega), hq]; unfold sizeM; omega
        clear hq
        go_wp2
        go_ret
        exact ⟨by rw [HZ.out]; rfl, hBw⟩

/-- A list of versions in memory of the callee's own, that reads as l does. -/
def ToVers (l : List Vp) (w : World) (e : Ending) (w' : World) : Prop := ∃ v ms, e = .returned v ∧ vs ms = l ∧ OwnVers w.heap.size w' v ms ∧ Below w.heap.size w w'
set_option maxRecDepth 100000 in
set_option maxHeartbeats 4000000 in
theorem toVerS_laws (l : List Mv) (a : Option Addr) (c : Nat) (w : World) (hvs : Vers w a c l) (hf : Few l) :
    Calls Try.prog 16 #[.slice a l.length c] w (ToVers (vs l) w) := by
  obtain ⟨i0, hi, hz0, hz1, hz2⟩ := info_parts infoVer
  have hf1 := hf.1
  have hmk := fun W => run_make_rowN (P := Try.prog) 39 27 i0 _ Try.underlying39 hi hz0 .i64 .i64 l.length l.length (Nat.le_refl _) (by rw [hz2]; omega) (by omega) W
  rw [hz1] at hmk
  go_enter Try.func16, Try.ntmps16
  go_wp2
  have r0 := row_made w (mvsC []) #[.int .i64 0, .int .i64 0, .int .i64 0, .int .i64 0, .int .i64 0, .int .i64 0, .slice none 0 0] (l.length * 7) 27
  have hb0 := below_box w (.cells (madeCells #[.int .i64 0, .int .i64 0, .int .i64 0, .int .i64 0, .int .i64 0, .int .i64 0, .slice none 0 0] (l.length * 7)) 27)
  go_loopw [4] (fun i wr => ∃ k : Nat, ∃ ms : List Mv, k ≤ l.length ∧ ms.length = k ∧ i = .int .i64 k ∧ vs ms = (vs l).take k ∧ OwnIn (w.heap.size + 1) wr ms ∧ wr.rowIs w.heap.size 27 (l.length * 7) (fillF (mvsC ms) #[.int .i64 0, .int .i64 0, .int .i64 0, .int .i64 0, .int .i64 0, .int .i64 0, .slice none 0 0] (k * 7)) ∧ Below w.heap.size w wr) (fun i _ => l.length - (intOf i).toNat)
  case atStart => exact ⟨0, [], Nat.zero_le _, rfl, rfl, rfl, OwnIn.nil _ _, by simpa using r0, hb0⟩
  case round =>
    obtain ⟨k, ms, hk, hml, rfl, hvm, hin, hrow, hBw⟩ := hrel
    have HM := Lib.hid hml
    have HV := Lib.hid hvm
    clear hvm
    have hrl := hrow.lt
    by_cases hlt : k < l.length
    · have hv := hvs.below hBw
      have hi0 : (0 : Int) ≤ (k : Int) := by omega
      have hi1 : (k : Int) < (l.length : Int) := by omega
      obtain ⟨b, off, hab, hbl, c0, c1, c2, c3, c4, c5, c6⟩ := hv.at_ k hlt
      subst hab
      clear hml
      go_wp2_with fail
      refine (toVer_laws l[k].v l[k].a l[k].c _ (hv.get k hlt) (hf.get k hlt)).mono ?_
      rintro e w2 ⟨p, cc, rfl, own, hb2⟩
      have hbw := below_after hBw hb2
      have hlts := hin.lt
      have hin := (hin.below hb2).snoc (m := ⟨l[k].v, p, cc⟩) own (by omega) (fun x hx b hb => (hlts x hx b hb).2)
      have hrow2 := hrow.of_block (hb2.block _ hrl)
      have hrow3 := fill_app (ys := mvC ⟨l[k].v, p, cc⟩) hrow2 (by rw [mvsC_len, HM.out])
      obtain ⟨g0, g1, g2, g3, g4, g5, g6⟩ := mvs_last ms ⟨l[k].v, p, cc⟩ HM.out
      have hrow4 := row_fill1 (row_fill1 (row_fill1 (row_fill1 (row_fill1 (row_fill1 (row_fill1 hrow3 g0) g1) g2) g3) g4) g5) g6
      have HE := Lib.hid (vs_get l k hlt)
      have HVN : Hid (vs (ms ++ [⟨l[k].v, p, cc⟩]) = (vs l).take (k + 1)) := by
        show _ = _
        rw [vs_snoc, HV.out, List.take_succ_eq_append_getElem (by rw [vs_len]; exact hlt), HE.out]
      have HLN : Hid ((ms ++ [(⟨l[k].v, p, cc⟩ : Mv)]).length = k + 1) := by show _ = _; rw [List.length_append, HM.out]; rfl
      clear g0 g1 g2 g3 g4 g5 g6 hrow hrow3 hlts c0 c1 c2 c3 c4 c5 c6
      have f0 := fun o => hrow2.frozen o
      have hx0 := hrow2.cell (i := k * 7) (by omega)
      have hx1 := hrow2.cell (i := k * 7 + 1) (by omega)
      have hx2 := hrow2.cell (i := k * 7 + 2) (by omega)
      have hx3 := hrow2.cell (i := k * 7 + 3) (by omega)
      have hx4 := hrow2.cell (i := k * 7 + 4) (by omega)
      have hx5 := hrow2.cell (i := k * 7 + 5) (by omega)
      have hx6 := hrow2.cell (i := k * 7 + 6) (by omega)
      go_wp2
      go_roundw
      case rel =>
        refine ⟨k + 1, ms ++ [⟨l[k].v, p, cc⟩], by omega, HLN.out, by go_num, HVN.out, by exact (OwnIn.set (OwnIn.set (OwnIn.set (OwnIn.set (OwnIn.set (OwnIn.set (OwnIn.set hin (Nat.lt_succ_self _) _) (Nat.lt_succ_self _) _) (Nat.lt_succ_self _) _) (Nat.lt_succ_self _) _) (Nat.lt_succ_self _) _) (Nat.lt_succ_self _) _) (Nat.lt_succ_self _) _), ?_, by exact (below_setb (below_setb (below_setb (below_setb (below_setb (below_setb (below_setb hbw (Nat.le_refl _) _) (Nat.le_refl _) _) (Nat.le_refl _) _) (Nat.le_refl _) _) (Nat.le_refl _) _) (Nat.le_refl _) _) (Nat.le_refl _) _)⟩
        rw [show (k + 1) * 7 = k * 7 + 1 + 1 + 1 + 1 + 1 + 1 + 1 from by omega, mvsC_snoc]
        exact hrow4
      case measure => simp [intOf]; omega
    · obtain rfl : k = l.length := by omega
      have HV : Hid (vs ms = vs l) := by have := HV.out; rwa [← vs_len l, List.take_length] at this
      have ho := row_owns (B := w.heap.size) hrow (by rw [mvsC_len, hml]) (Nat.le_refl _) (by unfold maxLen; omega)
      have HO : Hid (OwnVers w.heap.size wr (.slice (some ⟨w.heap.size, 0, none⟩) l.length l.length) ms) := ⟨by rw [hml]; exact ho, hin.base (Nat.le_succ _)⟩
      clear ho hml hrow
      go_wp2
      go_ret
      exact ⟨_, ms, rfl, HV.out, HO.out, hBw⟩

set_option maxHeartbeats 2000000 in
theorem eqVerS_same (l l' : List Mv) (a a' : Option Addr) (c c' : Nat) (w : World) (hvs : Vers w a c l) (hvt : Vers w a' c' l') (he : vs l' = vs l) :
    Calls Try.prog 20 #[.slice a l.length c, .slice a' l'.length c'] w fun e w' => e = .returned (.bool true) ∧ Below w.heap.size w w' := by
  have hn := hvs.len
  have hlen : l'.length = l.length := by rw [← vs_len l', he, vs_len]
  have HE : ∀ k (h : k < l.length) (h' : k < l'.length), l'[k].v = l[k].v := fun k h h' => by
    rw [← vs_get l' k h', ← vs_get l k h]; congr 1
  have HEE := Lib.hid HE
  clear HE
  have HL := Lib.hid hlen
  have hleb : l'.length ≤ l.length := by omega
  have hlea : l.length ≤ l'.length := by omega
  rw [hlen]
  clear hlen he
  go_enter Try.func20, Try.ntmps20
  go_wp2
  go_loopw [5] (fun i wr => ∃ k : Nat, k ≤ l.length ∧ i = .int .i64 k ∧ Below w.heap.size w wr) (fun i _ => l.length - (intOf i).toNat)
  case atStart => exact ⟨0, Nat.zero_le _, rfl, Below.refl _ _⟩
  case round =>
    obtain ⟨k, hk, rfl, hb⟩ := hrel
    by_cases hlt : k < l.length
    · have hlt' : k < l'.length := by omega
      have hv := hvs.below hb
      have hu := hvt.below hb
      have hev := HEE.out k hlt hlt'
      obtain ⟨b, off, hab, hbl, c0, c1, c2, c3, c4, c5, c6⟩ := hv.at_ k hlt
      obtain ⟨b', off', hab', hbl', d0, d1, d2, d3, d4, d5, d6⟩ := hu.at_ k hlt'
      subst hab
      subst hab'
      have hr := hv.get k hlt
      have hs := hu.get k hlt'
      rw [hev] at d0 d1 d2 d3 d4 d5 d6 hs
      have hi0 : (0 : Int) ≤ (k : Int) := by omega
      have hi1 : (k : Int) < (l.length : Int) := by omega
      clear hev
      go_wp2
      refine region_over (by kernel_rfl) (by kernel_rfl) ?_
      repeat (go_big_quiet_step ((go_at_call 19; exact quiet_over (eqVer_same l[k].v l[k].a l'[k].a l[k].c l'[k].c _ (hr.below (over_below _ _)) (hs.below (over_below _ _))))))
      refine wpQuiet_nil ?_
      intro w1 hb1
      have hbw := below_after hb hb1
      go_wp2
      go_roundw
      case rel => exact ⟨k + 1, by omega, by go_num, hbw⟩
      case measure => simp [intOf]; omega
    · obtain rfl : k = l.length := by omega
      go_wp2
      go_ret
      exact ⟨rfl, hb⟩

end Go.Proofs.Ythciikogogkfcaa
