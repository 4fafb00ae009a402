/- A version that is put in its place, step by step. No program in sight. -/
import Derived.Test.YthciikogogkfcaaChainL
namespace Go.Proofs.Ythciikogogkfcaa
set_option linter.unusedVariables false

theorem putV_at {l : List Vp} {v : Vp} (j : Nat) (hj : j ≤ l.length) (h1 : ∀ u ∈ l.take j, vLess u v = true) (h2 : ∀ h : j < l.length, vLess l[j] v = false) : l.take j ++ v :: l.drop j = putV l v := by
  induction l generalizing j with
  | nil => simp [putV_nil]
  | cons a l ih =>
    rw [putV_cons]
    cases j with
    | zero =>
      have := h2 (by simp)
      simp only [List.getElem_cons_zero] at this
      simp [this]
    | succ j =>
      have ha := h1 a (by simp)
      rw [if_pos ha]
      simp only [List.take_succ_cons, List.drop_succ_cons, List.cons_append]
      rw [ih j (by simpa using hj) (fun u hu => h1 u (by simp [hu])) (fun h => by
        have := h2 (by simpa using h)
        simpa using this)]
/-- Where a list that is copied with one more in its place stands behind k rounds. -/
def VSt (l : List Vp) (x : Vp) (k : Nat) : Bool → List Vp → Prop
  | false, o => o = l.take k ∧ ∀ u ∈ l.take k, vLess u x = true
  | true, o => ∃ j, j < k ∧ k ≤ l.length ∧ o = l.take j ++ x :: (l.take k).drop j ∧ (∀ u ∈ l.take j, vLess u x = true) ∧ ∀ h : j < l.length, vLess l[j] x = false
theorem VSt.start (l : List Vp) (x : Vp) : VSt l x 0 false [] := ⟨rfl, by simp⟩
theorem VSt.pass {l : List Vp} {x : Vp} {k : Nat} {o : List Vp} (h : VSt l x k false o) (hk : k < l.length) (hl : vLess l[k] x = true) : VSt l x (k + 1) false (o ++ [l[k]]) := by
  obtain ⟨h1, h2⟩ := h
  refine ⟨by rw [h1, List.take_succ_eq_append_getElem hk], fun u hu => ?_⟩
  rw [List.take_succ_eq_append_getElem hk] at hu
  rcases List.mem_append.1 hu with hu | hu
  · exact h2 u hu
  · simp only [List.mem_singleton] at hu; subst hu; exact hl
theorem VSt.here {l : List Vp} {x : Vp} {k : Nat} {o : List Vp} (h : VSt l x k false o) (hk : k < l.length) (hl : vLess l[k] x = false) : VSt l x (k + 1) true ((o ++ [x]) ++ [l[k]]) := by
  obtain ⟨h1, h2⟩ := h
  refine ⟨k, by omega, by omega, ?_, h2, fun _ => hl⟩
  rw [h1, List.take_succ_eq_append_getElem hk, List.drop_append_of_le_length (by simp; omega)]
  simp
theorem VSt.on {l : List Vp} {x : Vp} {k : Nat} {o : List Vp} (h : VSt l x k true o) (hk : k < l.length) : VSt l x (k + 1) true (o ++ [l[k]]) := by
  obtain ⟨j, h1, h2, h3, h4, h5⟩ := h
  refine ⟨j, by omega, by omega, ?_, h4, h5⟩
  rw [h3, List.take_succ_eq_append_getElem hk, List.drop_append_of_le_length (by rw [List.length_take]; omega)]
  simp
theorem VSt.out {l : List Vp} {x : Vp} {o : List Vp} (h : VSt l x l.length false o) : o ++ [x] = putV l x := by
  obtain ⟨h1, h2⟩ := h
  rw [List.take_length] at h1
  subst h1
  rw [← putV_at o.length (Nat.le_refl _) h2 (fun h => by omega)]
  simp
theorem VSt.done {l : List Vp} {x : Vp} {o : List Vp} (h : VSt l x l.length true o) : o = putV l x := by
  obtain ⟨j, h1, h2, h3, h4, h5⟩ := h
  rw [List.take_length] at h3
  rw [h3, putV_at j (by omega) h4 h5]
theorem VSt.len {l : List Vp} {x : Vp} {k : Nat} {d : Bool} {o : List Vp} (h : VSt l x k d o) : o.length ≤ k + 1 := by
  cases d with
  | false => rw [h.1, List.length_take]; omega
  | true =>
    obtain ⟨j, h1, h2, h3, _⟩ := h
    rw [h3]; simp; omega
end Go.Proofs.Ythciikogogkfcaa
