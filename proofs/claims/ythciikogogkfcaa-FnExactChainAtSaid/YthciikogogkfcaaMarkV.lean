/- Versions, and lists of them, marked and held by the laws' own functions. -/
import Derived.Test.YthciikogogkfcaaMarkP
import Derived.Test.YthciikogogkfcaaConvVS
namespace Go.Proofs.Ythciikogogkfcaa
open Go.RowKit Go.Deep
set_option linter.unusedVariables false

set_option maxHeartbeats 1000000 in
theorem markVer_laws (v : Vp) (k : Int) (a : Option Addr) (c N : Nat) (xs : List Value) (w : World) (own : w.ownsRow N 32 3 (.slice a v.deps.length c) v.deps.length xs) (h0 : 0 ≤ k) (h1 : k ≤ 1000000000) (hn : v.deps.length ≤ 1048577) :
    Calls Try.prog 22 #[.agg #[.int .i64 v.key, .int .i64 v.time, .int .i64 v.site, .int .i64 v.val, .int .i64 v.client, .int .i64 v.call, .slice a v.deps.length c], .int .i64 k] w (Marked N (.slice a v.deps.length c) v.deps.length k w) := by
  have C1 := Blk.new w #[.int .i64 v.key, .int .i64 v.time, .int .i64 v.site, .int .i64 v.val, .int .i64 v.client, .int .i64 v.call, .slice a v.deps.length c] 27
  have hbx := below_box w (.cells #[.int .i64 v.key, .int .i64 v.time, .int .i64 v.site, .int .i64 v.val, .int .i64 v.client, .int .i64 v.call, .slice a v.deps.length c] 27)
  have own1 := own_below own hbx
  obtain ⟨x0, x1, x2, x3, x4, x5, x6, xf, xl⟩ := C1.seven
  go_enter Try.func22, Try.ntmps22
  go_wp2_with fail
  refine (markDepS_laws v.deps.length k a c N xs _ own1 h0 h1 hn).mono ?_
  rintro e w1 ⟨rfl, own2, hg⟩
  have hg1 := grown_trans' (grown_of_below hbx _) hg
  go_wp2
  go_ret
  exact ⟨rfl, own2, hg1⟩
set_option maxHeartbeats 1000000 in
theorem heldVer_laws (v : Vp) (k : Int) (a : Option Addr) (c : Nat) (w : World) (hr : Reads w a v.deps.length c (dpsC (marksD k v.deps.length))) (h0 : 0 ≤ k) (h1 : k ≤ 1000000000) (hn : v.deps.length ≤ 1048577) :
    Calls Try.prog 23 #[.agg #[.int .i64 v.key, .int .i64 v.time, .int .i64 v.site, .int .i64 v.val, .int .i64 v.client, .int .i64 v.call, .slice a v.deps.length c], .int .i64 k] w fun e w' => e = .returned (.int .i64 (k + 3 * (v.deps.length : Int))) ∧ Below w.heap.size w w' := by
  have C1 := Blk.new w #[.int .i64 v.key, .int .i64 v.time, .int .i64 v.site, .int .i64 v.val, .int .i64 v.client, .int .i64 v.call, .slice a v.deps.length c] 27
  have G := below_box w (.cells #[.int .i64 v.key, .int .i64 v.time, .int .i64 v.site, .int .i64 v.val, .int .i64 v.client, .int .i64 v.call, .slice a v.deps.length c] 27)
  have hk0 : 0 ≤ k + 3 * (v.deps.length : Int) := by omega
  obtain ⟨x0, x1, x2, x3, x4, x5, x6, xf, xl⟩ := C1.seven
  go_enter Try.func23, Try.ntmps23
  go_wp2_with fail
  refine (heldDepS_laws v.deps.length k a c _ (hr.below G) h0 h1 hn).mono ?_
  rintro e w' ⟨rfl, rfl⟩
  go_wp2
  go_ret
  exact ⟨rfl, G⟩

set_option maxRecDepth 100000 in
set_option maxHeartbeats 4000000 in
theorem markVerS_laws (ms : List Mv) (k : Int) (a : Option Addr) (c N : Nat) (w : World) (own : OwnVers N w (.slice a ms.length c) ms) (h0 : 0 ≤ k) (h1 : k + cntM ms ≤ 1000000000) (hf : Few ms) :
    Calls Try.prog 21 #[.slice a ms.length c, .int .i64 k] w (MarkedVs N (.slice a ms.length c) ms k w) := by
  have hfl := hf.1
  have hnn := cntM_nonneg ms
  go_enter Try.func21, Try.ntmps21
  go_wp2
  go_loopw [1, 5] (fun q i wr => ∃ j : Nat, j ≤ ms.length ∧ i = .int .i64 j ∧ q = .int .i64 (k + cntM (ms.take j)) ∧ wr.ownsRow N 27 7 (.slice a ms.length c) ms.length (mvsC (marksM k (ms.take j) ++ ms.drop j)) ∧ OwnIn N wr (marksM k (ms.take j) ++ ms.drop j) ∧ But (BlksOf (.slice a ms.length c) ms) w wr) (fun _ i _ => ms.length - (intOf i).toNat)
  case atStart => exact ⟨0, Nat.zero_le _, rfl, int_eq (by simp [cntM_nil]), by simpa [marksM] using own.own, by simpa [marksM] using own.inn, But.refl _ _⟩
  case round =>
    obtain ⟨j, hj, rfl, rfl, ow, inn, hB⟩ := hrel
    by_cases hlt : j < ms.length
    · have HA : (marksM k (ms.take j)).length = j := by rw [marksM_len, List.length_take]; omega
      have hdr : ms.drop j = ms[j] :: ms.drop (j + 1) := List.drop_eq_getElem_cons hlt
      rw [hdr] at ow inn
      obtain ⟨g, cp, hv, hgN, hgl, hfr, hcl⟩ := own_open ow (by omega)
      simp only [Value.slice.injEq] at hv
      obtain ⟨rfl, -, rfl⟩ := hv
      obtain ⟨g0, g1, g2, g3, g4, g5, g6⟩ := mvs_mid (marksM k (ms.take j)) (ms.drop (j + 1)) ms[j] HA
      have c0 := hcl _ _ g0
      have c1 := hcl _ _ g1
      have c2 := hcl _ _ g2
      have c3 := hcl _ _ g3
      have c4 := hcl _ _ g4
      have c5 := hcl _ _ g5
      have c6 := hcl _ _ g6
      have hct := cntM_take ms j hlt
      have hcl2 := cntM_take_le ms (j + 1)
      have hct0 := cntM_nonneg (ms.take j)
      have hfj := hf.get j hlt
      obtain ⟨q, hq⟩ : ∃ q, q = k + cntM (ms.take j) := ⟨_, rfl⟩
      rw [← hq]
      have hst : stepM ms[j] = 6 + 3 * (ms[j].v.deps.length : Int) := rfl
      have hq0 : 0 ≤ q := by omega
      have hq1 : q + 6 + 3 * (ms[j].v.deps.length : Int) ≤ 1000000000 := by omega
      have hqn : q + 1 + 1 + 1 + 1 + 1 + 1 + 3 * (ms[j].v.deps.length : Int) = k + cntM (ms.take (j + 1)) := by omega
      have hi0 : (0 : Int) ≤ (j : Int) := by omega
      have hi1 : (j : Int) < (ms.length : Int) := by omega
      have hne : ∀ m ∈ marksM k (ms.take j) ++ ms[j] :: ms.drop (j + 1), blkOf m ≠ some g := fun m hm => by
        rcases own_types (inn.row m hm) ow (by decide) with h | h
        · intro e; unfold blkOf at e; rw [h] at e; cases e
        · exact h
      have own6 := (own_write (own_write (own_write (own_write (own_write (own_write ow (j * 7) (.int .i64 q)) (j * 7 + 1) (.int .i64 (q + 1))) (j * 7 + 2) (.int .i64 (q + 1 + 1))) (j * 7 + 3) (.int .i64 (q + 1 + 1 + 1))) (j * 7 + 4) (.int .i64 (q + 1 + 1 + 1 + 1))) (j * 7 + 5) (.int .i64 (q + 1 + 1 + 1 + 1 + 1)))
      rw [mvs_marks (marksM k (ms.take j)) (ms.drop (j + 1)) ms[j] q HA] at own6
      have inn6 := (OwnIn.set' (OwnIn.set' (OwnIn.set' (OwnIn.set' (OwnIn.set' (OwnIn.set' inn hne (o := j * 7) (.int .i64 q)) hne (o := j * 7 + 1) (.int .i64 (q + 1))) hne (o := j * 7 + 2) (.int .i64 (q + 1 + 1))) hne (o := j * 7 + 3) (.int .i64 (q + 1 + 1 + 1))) hne (o := j * 7 + 4) (.int .i64 (q + 1 + 1 + 1 + 1))) hne (o := j * 7 + 5) (.int .i64 (q + 1 + 1 + 1 + 1 + 1)))
      have B6 := (But.set (But.set (But.set (But.set (But.set (But.set hB (o := j * 7) (Or.inl rfl) (.int .i64 q)) (o := j * 7 + 1) (Or.inl rfl) (.int .i64 (q + 1))) (o := j * 7 + 2) (Or.inl rfl) (.int .i64 (q + 1 + 1))) (o := j * 7 + 3) (Or.inl rfl) (.int .i64 (q + 1 + 1 + 1))) (o := j * 7 + 4) (Or.inl rfl) (.int .i64 (q + 1 + 1 + 1 + 1))) (o := j * 7 + 5) (Or.inl rfl) (.int .i64 (q + 1 + 1 + 1 + 1 + 1)))
      have ownm := inn6.row ms[j] (List.mem_append.2 (Or.inr List.mem_cons_self))
      have HT : Hid (marksM k (ms.take (j + 1)) ++ ms.drop (j + 1) = marksM k (ms.take j) ++ markM q ms[j] :: ms.drop (j + 1)) := by
        show _ = _
        rw [List.take_succ_eq_append_getElem hlt, marksM_snoc, List.append_assoc, ← hq]; rfl
      have HQ := Lib.hid hqn
      have hk6 : q + 1 + 1 + 1 + 1 + 1 + 1 = q + 6 := by omega
      clear hcl g0 g1 g2 g3 g4 g5 g6 hct hcl2 hct0 hq hst hqn hdr ow inn hB h1 hnn
      go_wp2_with fail
      refine (markDepS_laws ms[j].v.deps.length _ ms[j].a ms[j].c N _ _ ownm (by omega) (by omega) hfj).mono ?_
      rintro e w7 ⟨rfl, mk, hg⟩
      have inn7 := inn6.turn (m' := markM q ms[j]) hg (markM_blk q _) (by rw [markM_len]; exact mk)
      have ow7 := own6.kept hg (own_types own6 ownm (by decide))
      have B7 := B6.trans (But.of_grown hg fun i hi => Or.inr ⟨ms[j], List.getElem_mem hlt, hi⟩)
      rw [← HT.out] at inn7 ow7
      go_wp2
      go_roundw
      case rel => exact ⟨j + 1, by omega, by go_num, int_eq (by have := HQ.out; omega), ow7, inn7, B7⟩
      case measure => simp [intOf]; omega
    · obtain rfl : j = ms.length := by omega
      rw [List.take_length, List.drop_length, List.append_nil] at ow inn
      rw [List.take_length]
      have hres : OwnVers N _ (.slice a ms.length c) (marksM k ms) := ⟨by rw [marksM_len]; exact ow, inn⟩
      go_wp2
      go_ret
      exact ⟨rfl, hres, hB⟩
end Go.Proofs.Ythciikogogkfcaa
