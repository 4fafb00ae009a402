/- Lists of versions as plain data: how many have a stamp, how many are of each slot. No program in sight. -/
import Derived.Test.YtbpdhilhohcinaaChainL
namespace Go.Proofs.Ytbpdhilhohcinaa
set_option linter.unusedVariables false

def cntV (l : List Vp) (q : Dp) : Nat := l.countP fun v => isV v q
theorem cntV_take (l : List Vp) (q : Dp) (k : Nat) (h : k < l.length) : cntV (l.take (k + 1)) q = cntV (l.take k) q + (if isV l[k] q then 1 else 0) := by
  unfold cntV; rw [List.take_succ_eq_append_getElem h, List.countP_append]; simp [List.countP_cons]
theorem cntV_one {l : List Vp} (hs : Sorted l) (q : Dp) : cntV l q = if hasV l q then 1 else 0 := by
  induction l with
  | nil => simp [cntV, hasV, posV]
  | cons a l ih =>
    have hs' := List.pairwise_cons.1 hs
    have ih := ih hs'.2
    unfold cntV at ih ⊢
    rw [List.countP_cons, ih]
    by_cases ha : isV a q = true
    · have hq := (isV_iff a q).1 ha
      have h0 : hasV l q = false := hasV_no.2 fun v hv e => vLess_ne (hs'.1 v hv) (by rw [hq, e])
      have h1 : hasV (a :: l) q = true := (hasV_iff _ _).2 ⟨a, by simp, hq⟩
      simp [ha, h0, h1]
    · have he : hasV (a :: l) q = hasV l q := by
        rcases hb : hasV l q with _ | _
        · refine hasV_no.2 fun v hv => ?_
          rcases List.mem_cons.1 hv with rfl | hv
          · exact fun e => ha ((isV_iff _ _).2 e)
          · exact hasV_no.1 hb v hv
        · obtain ⟨v, hv, e⟩ := (hasV_iff l q).1 hb
          exact (hasV_iff _ _).2 ⟨v, by simp [hv], e⟩
      simp [ha, he]
/-- What a law counts of a stamp, once a list is valid. -/
theorem at_count {l : List Vp} (hk : chainOkB l = true) (q : Dp) : ((atV l q).isSome = true ∧ cntV l q = 1 ∧ ((atV l q).getD zeroV).key = q.1 ∧ ((atV l q).getD zeroV).time = q.2.1 ∧ ((atV l q).getD zeroV).site = q.2.2) ∨ ((atV l q).isSome = false ∧ cntV l q = 0) := by
  have hg := (good_iff l).1 hk
  rw [atV_ok hk, cntV_one hg.srt]
  cases h : getV l q with
  | none => right; rw [hasV_get, h]; exact ⟨rfl, rfl⟩
  | some v =>
    left
    have := (getV_some h).2
    rw [hasV_get, h]
    obtain ⟨a, b, c⟩ := q
    simp only [depV, Prod.mk.injEq] at this
    exact ⟨rfl, rfl, this.1, this.2.1, this.2.2⟩
/-- How many are of the first k slots. -/
def psum (l : List Vp) : Nat → Nat
  | 0 => 0
  | k + 1 => psum l k + (l.filter (inSlot (k : Int))).length
theorem psum_all {l : List Vp} (hk : chainOkB l = true) : psum l 3 = l.length := by
  have hg := (good_iff l).1 hk
  have := slots_sum hg.ok
  simp only [psum]
  simpa using this
theorem psum_le (l : List Vp) (k : Nat) : psum l k ≤ k * l.length := by
  induction k with
  | zero => simp [psum]
  | succ k ih =>
    have := List.length_filter_le (inSlot (k : Int)) l
    simp only [psum]
    rw [Nat.succ_mul]; omega
theorem slot_parts {l : List Vp} (hk : chainOkB l = true) (s : Int) : (slotIn l s).length + (slotOut l s).length = l.length ∧ (slotIn l s).length = (l.filter (inSlot s)).length := by
  have := slots_two l s
  simp only [slotIn, slotOut, hk, if_true]
  exact ⟨this, trivial⟩
end Go.Proofs.Ytbpdhilhohcinaa
