/- Lists of versions as plain data: one that is put into again and again gets full. No program in sight. -/
import Derived.Test.YtbpdhilhohcinaaChainL
namespace Go.Proofs.Ytbpdhilhohcinaa
set_option linter.unusedVariables false

def verN (n : Nat) : Vp := ⟨3, 100 + (n : Int), 1, 0, 0, 1, []⟩
def isF (n : Nat) (v : Vp) : Bool := decide (v.key = 3) && (decide (v.site = 1) && (decide (100 ≤ v.time) && decide (v.time < 100 + (n : Int))))
def cntF (l : List Vp) (n : Nat) : Nat := l.countP (isF n)
theorem isF_up {n : Nat} {v : Vp} (h : isF n v = true) : isF (n + 1) v = true := by
  simp only [isF, Bool.and_eq_true, decide_eq_true_eq] at h ⊢
  refine ⟨h.1, h.2.1, h.2.2.1, ?_⟩
  have := h.2.2.2; push_cast; omega
theorem cntF_succ {l : List Vp} {n : Nat} (h : ∃ u ∈ l, depV u = depV (verN n)) : cntF l n + 1 ≤ cntF l (n + 1) := by
  induction l with
  | nil => obtain ⟨u, hu, _⟩ := h; simp at hu
  | cons a l ih =>
    unfold cntF at ih ⊢
    rw [List.countP_cons, List.countP_cons]
    have hmono : l.countP (isF n) ≤ l.countP (isF (n + 1)) := List.countP_mono_left fun x _ hx => isF_up hx
    obtain ⟨u, hu, he⟩ := h
    rcases List.mem_cons.1 hu with rfl | hu
    · rw [dep_eq] at he
      obtain ⟨h1, h2, h3⟩ := he
      simp only [verN] at h1 h2 h3
      have e1 : isF n u = false := by simp [isF, h1, h2, h3]
      have e2 : isF (n + 1) u = true := by simp [isF, h1, h2, h3]; omega
      rw [e1, e2]; simp; omega
    · have := ih ⟨u, hu, he⟩
      by_cases ha : isF n a = true
      · rw [if_pos ha, if_pos (isF_up ha)]; omega
      · rw [if_neg ha]; split <;> omega
theorem countP_putV (l : List Vp) (v : Vp) (p : Vp → Bool) : (putV l v).countP p = l.countP p + (if p v then 1 else 0) := by
  induction l with
  | nil => simp [putV_nil, List.countP_cons]
  | cons a l ih => rw [putV_cons]; split <;> simp [List.countP_cons, ih] <;> omega
theorem verN_ok (n : Nat) (h : n ≤ 1000) : verOkB (verN n) = true := by
  have h1 : stampOkB (100 + (n : Int)) 1 = true := by simp [stampOkB, inB]; omega
  simp [verOkB, headOkB, verN, h1, inB, depsOkB, okFrom, olderB]
/-- One more try. -/
theorem full_step {l : List Vp} {n : Nat} (hg : Good l) (hn : n ≤ 1000) (h : l.length = 80 ∨ n ≤ cntF l n) :
    Good (chainPutL l (verN n)) ∧ ((chainPutL l (verN n)).length = 80 ∨ n + 1 ≤ cntF (chainPutL l (verN n)) (n + 1)) ∧ (l.length = 80 → chainPutB l (verN n) = false) := by
  have hk := (good_iff l).2 hg
  rcases hb : chainPutB l (verN n) with _ | _
  · rw [putL_no hk hb]
    refine ⟨hg, ?_, fun _ => rfl⟩
    rcases h with h | h
    · exact .inl h
    · by_cases h80 : l.length = 80
      · exact .inl h80
      · right
        have hh : hasV l (depV (verN n)) = true := by
          rcases hx : hasV l (depV (verN n)) with _ | _
          · exfalso
            have := hg.len
            have : chainPutB l (verN n) = true := (putB_iff l _).2 ⟨hg, verN_ok n hn, hasV_no.1 hx, by omega⟩
            rw [hb] at this; cases this
          · rfl
        have := cntF_succ ((hasV_iff l _).1 hh)
        omega
  · rw [putL_yes hb]
    obtain ⟨_, _, _, hlt⟩ := (putB_iff l _).1 hb
    refine ⟨good_put hb, ?_, fun h80 => by omega⟩
    rcases h with h | h
    · omega
    · right
      have h1 := cntF_succ (l := putV l (verN n)) (n := n) ⟨verN n, (mem_putV _ _ _).2 (.inl rfl), rfl⟩
      have h2 : cntF (putV l (verN n)) n = cntF l n + 0 := by
        unfold cntF; rw [countP_putV]; simp [isF, verN]
      omega
theorem full_80 {l : List Vp} {n : Nat} (hg : Good l) (h : l.length = 80 ∨ n ≤ cntF l n) (hn : 80 ≤ n) : l.length = 80 := by
  rcases h with h | h
  · exact h
  · have := hg.len
    have : cntF l n ≤ l.length := List.countP_le_length
    omega
theorem good_putL {l : List Vp} (hk : chainOkB l = true) (v : Vp) : Good (chainPutL l v) := by
  rcases hb : chainPutB l v with _ | _
  · rw [putL_no hk hb]; exact (good_iff l).1 hk
  · rw [putL_yes hb]; exact good_put hb
end Go.Proofs.Ytbpdhilhohcinaa
