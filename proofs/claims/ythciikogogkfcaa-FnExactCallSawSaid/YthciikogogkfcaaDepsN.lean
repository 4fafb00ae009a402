/- More plain laws of dependency lists: puts that come twice, in either order, of all keys; what is told of a key is there. -/
import Derived.Test.YthciikogogkfcaaDepsM
import Derived.Test.YthciikogogkfcaaPutW2
namespace Go.Proofs.Ythciikogogkfcaa

theorem maxS_self (a : Int × Int) : maxS a a = a := by unfold maxS; split <;> rfl
theorem maxO_twice (a : Option (Int × Int)) (x : Int × Int) : maxO (maxO a (some x)) (some x) = maxO a (some x) := by rw [maxO_assoc]; congr 1; simp [maxO, maxS_self]
theorem putF_ne (l : List Dp) (d : Dp) : 0 < (putF l d).length := by
  cases l with
  | nil => simp [putF]
  | cons e l =>
    rw [putF]
    split
    · simp
    · split <;> simp
theorem putF_twice {l : List Dp} {d : Dp} (h : depsOkB l = true) (hd : dpOk d = true) : putF (putF l d) d = putF l d := by
  have h1 := putF_ok h hd
  refine depsOk_ext (putF_ok h1 hd) h1 (fun key => ?_)
  rw [pickS_put h1, pickS_put h]
  by_cases hk : d.1 = key
  · rw [if_pos hk, if_pos hk, maxO_twice]
  · rw [if_neg hk]
theorem putF_comm {l : List Dp} {d e : Dp} (h : depsOkB l = true) (hd : dpOk d = true) (he : dpOk e = true) : putF (putF l e) d = putF (putF l d) e := by
  have h1 := putF_ok h hd
  have h2 := putF_ok h he
  refine depsOk_ext (putF_ok h2 hd) (putF_ok h1 he) (fun key => ?_)
  rw [pickS_put h2, pickS_put h, pickS_put h1, pickS_put h]
  by_cases hk : d.1 = key <;> by_cases hj : e.1 = key
  · rw [if_pos hk, if_pos hj, if_pos hj, if_pos hk, maxO_assoc, maxO_assoc, maxO_comm (some e.2)]
  · rw [if_pos hk, if_neg hj, if_neg hj, if_pos hk]
  · rw [if_neg hk, if_pos hj, if_pos hj, if_neg hk]
  · rw [if_neg hk, if_neg hj, if_neg hj, if_neg hk]
theorem putR_twice {l : List Dp} {d : Dp} (h : depsOkB l = true) (hd : dpOk d = true) : putR (putR l d) d = putR l d := by
  rw [putR_ok h hd, putR_ok (putF_ok h hd) hd, putF_twice h hd]
theorem putR_comm {l : List Dp} {d e : Dp} (h : depsOkB l = true) (hd : dpOk d = true) (he : dpOk e = true) : putR (putR l e) d = putR (putR l d) e := by
  rw [putR_ok h hd, putR_ok h he, putR_ok (putF_ok h hd) he, putR_ok (putF_ok h he) hd, putF_comm h hd he]
theorem putR_ne {l : List Dp} {d : Dp} (h : depsOkB l = true) (hd : dpOk d = true) : 0 < (putR l d).length := by rw [putR_ok h hd]; exact putF_ne l d
theorem putR_okB {l : List Dp} {d : Dp} (h : depsOkB l = true) (hd : dpOk d = true) : depsOkB (putR l d) = true := by rw [putR_ok h hd]; exact putF_ok h hd
theorem atR_putR {l : List Dp} {d : Dp} (h : depsOkB l = true) (hd : dpOk d = true) (key : Int) : atR (putR l d) key = if d.1 = key then maxS (atR l key) d.2 else atR l key := by
  rw [atR_ok (putR_okB h hd), atR_ok h, putR_ok h hd, pickS_put h]
  by_cases hk : d.1 = key
  · rw [if_pos hk, if_pos hk]
    cases hp : pickS key l with
    | none =>
      simp only [dpOk, Bool.and_eq_true, stampOkB_iff'] at hd
      simp only [maxO, Option.getD_some, Option.getD_none, maxS]
      rw [if_pos (less_true.2 (.inl (by omega)))]
    | some y => rfl
  · rw [if_neg hk, if_neg hk]
theorem all_len {last : Int} {l : List Dp} (h : okFrom last l = true) (hl : last ≤ 5) (ha : ∀ j, last < j → j ≤ 5 → ∃ e ∈ l, e.1 = j) : (l.length : Int) = 5 - last := by
  induction l generalizing last with
  | nil =>
    rcases Int.lt_or_le last 5 with h5 | h5
    · obtain ⟨e, he, _⟩ := ha 5 h5 (Int.le_refl _); simp at he
    · simp; omega
  | cons e l ih =>
    have hlt := okFrom_lt h
    have hok := okFrom_ok h e (by simp)
    simp only [okFrom, Bool.and_eq_true, decide_eq_true_eq] at h
    have hg := okFrom_lt h.2
    simp only [dpOk, Bool.and_eq_true, inB_iff] at hok
    have h1 : e.1 = last + 1 := by
      obtain ⟨x, hx, he⟩ := ha (last + 1) (by omega) (by omega)
      rcases List.mem_cons.1 hx with rfl | hx
      · exact he
      · have := hg x hx; omega
    have := ih h.2 (by omega) (fun j hj hj5 => by
      obtain ⟨x, hx, he⟩ := ha j (by omega) hj5
      rcases List.mem_cons.1 hx with rfl | hx
      · omega
      · exact ⟨x, hx, he⟩)
    simp only [List.length_cons]; push_cast; omega
theorem putF_keeps {l : List Dp} {d : Dp} {j : Int} (h : ∃ e ∈ l, e.1 = j) : ∃ e ∈ putF l d, e.1 = j := by
  induction l with
  | nil => obtain ⟨e, he, _⟩ := h; simp at he
  | cons x l ih =>
    obtain ⟨e, he, hj⟩ := h
    rw [putF]
    by_cases h1 : x.1 = d.1
    · rw [if_pos h1]
      rcases List.mem_cons.1 he with rfl | he
      · refine ⟨_, List.mem_cons_self .., ?_⟩
        split <;> omega
      · exact ⟨e, List.mem_cons_of_mem _ he, hj⟩
    · rw [if_neg h1]
      by_cases h2 : d.1 < x.1
      · rw [if_pos h2]; exact ⟨e, List.mem_cons_of_mem _ he, hj⟩
      · rw [if_neg h2]
        rcases List.mem_cons.1 he with rfl | he
        · exact ⟨e, List.mem_cons_self .., hj⟩
        · obtain ⟨y, hy, hyj⟩ := ih ⟨e, he, hj⟩
          exact ⟨y, List.mem_cons_of_mem _ hy, hyj⟩
theorem putF_has (l : List Dp) (d : Dp) : ∃ e ∈ putF l d, e.1 = d.1 := by
  induction l with
  | nil => exact ⟨d, by simp [putF], rfl⟩
  | cons x l ih =>
    rw [putF]
    by_cases h1 : x.1 = d.1
    · rw [if_pos h1]
      refine ⟨_, List.mem_cons_self .., ?_⟩
      split <;> omega
    · rw [if_neg h1]
      by_cases h2 : d.1 < x.1
      · rw [if_pos h2]; exact ⟨d, List.mem_cons_self .., rfl⟩
      · rw [if_neg h2]
        obtain ⟨y, hy, hyj⟩ := ih
        exact ⟨y, List.mem_cons_of_mem _ hy, hyj⟩
/-- After k puts of the keys 0, 1, ..: none at all, or all these keys are there. -/
def FewSt (k : Nat) (x : List Dp) : Prop := x = [] ∨ (0 < x.length ∧ depsOkB x = true ∧ ∀ j : Int, 0 ≤ j → j < (k : Int) → ∃ e ∈ x, e.1 = j)
theorem FewSt.start {l : List Dp} {d : Dp} : FewSt 0 (putR l d) := by
  rcases h : depsOkB l with _ | _
  · exact .inl (putR_bad1 h)
  · rcases hd : dpOk d with _ | _
    · exact .inl (putR_bad2 hd)
    · exact .inr ⟨putR_ne h hd, putR_okB h hd, fun j h0 h1 => by omega⟩
theorem FewSt.len {k : Nat} {x : List Dp} (h : FewSt k x) : x.length ≤ 6 := by
  rcases h with rfl | ⟨_, h, _⟩
  · simp
  · exact depsOk_len h
theorem FewSt.step {k : Nat} {x : List Dp} {t : Int} (h : FewSt k x) (h0 : 0 < x.length) (hk : k < 6) (ht0 : 0 ≤ t) (ht : t ≤ 8) : FewSt (k + 1) (putR x ((k : Int), 1 + t, 0)) := by
  rcases h with rfl | ⟨_, h, ha⟩
  · simp at h0
  · have hd : dpOk ((k : Int), 1 + t, 0) = true := by simp only [dpOk, Bool.and_eq_true, stampOkB_iff', inB_iff]; omega
    refine .inr ⟨putR_ne h hd, putR_okB h hd, fun j h0 h1 => ?_⟩
    rw [putR_ok h hd]
    by_cases hj : j = (k : Int)
    · obtain ⟨e, he, hh⟩ := putF_has x ((k : Int), 1 + t, 0)
      exact ⟨e, he, by rw [hh, hj]⟩
    · exact putF_keeps (ha j h0 (by omega))
theorem FewSt.done {x : List Dp} (h : FewSt 6 x) (h0 : 0 < x.length) : x.length = 6 ∧ depsOkB x = true := by
  rcases h with rfl | ⟨_, h, ha⟩
  · simp at h0
  · have := all_len (last := -1) h (by omega) (fun j hj hj5 => ha j (by omega) (by omega))
    exact ⟨by omega, h⟩
/-- Is a key with this stamp there? -/
def thereB (l : List Dp) (key : Int) (s : Int × Int) : Bool := l.any fun e => decide (e.1 = key) && decide (e.2 = s)
theorem thereB_take (l : List Dp) (key : Int) (s : Int × Int) (k : Nat) (h : k < l.length) : thereB (l.take (k + 1)) key s = (thereB (l.take k) key s || (decide (l[k].1 = key) && decide (l[k].2 = s))) := by
  unfold thereB; rw [List.take_succ_eq_append_getElem h, List.any_append]; simp
theorem atF_mem {l : List Dp} {key : Int} (h : ∃ e ∈ l, e.1 = key) : ∃ e ∈ l, e.1 = key ∧ e.2 = atF l key := by
  induction l with
  | nil => obtain ⟨e, he, _⟩ := h; simp at he
  | cons x l ih =>
    rw [atF]
    by_cases hx : x.1 = key
    · rw [if_pos hx]; exact ⟨x, List.mem_cons_self .., hx, rfl⟩
    · rw [if_neg hx]
      obtain ⟨e, he, hk⟩ := h
      rcases List.mem_cons.1 he with rfl | he
      · exact absurd hk hx
      · obtain ⟨y, hy, hyk⟩ := ih ⟨e, he, hk⟩
        exact ⟨y, List.mem_cons_of_mem _ hy, hyk⟩
theorem there_iff {l : List Dp} (h : depsOkB l = true) (key : Int) : thereB l key (atR l key) = !decide (atR l key = (0, 0)) := by
  have hR : atR l key = atF l key := by simp [atR, h]
  rw [hR]
  by_cases hk : ∃ e ∈ l, e.1 = key
  · obtain ⟨e, he, h1, h2⟩ := atF_mem hk
    have hok := okFrom_ok h e he
    simp only [dpOk, Bool.and_eq_true, stampOkB_iff'] at hok
    have hne : ¬ atF l key = (0, 0) := by
      intro h0; rw [h0] at h2; have := congrArg Prod.fst h2; simp only at this; omega
    rw [decide_eq_false hne, Bool.not_false]
    unfold thereB
    exact List.any_eq_true.2 ⟨e, he, by simp [h1, h2]⟩
  · have hn : ∀ e ∈ l, e.1 ≠ key := fun e he hh => hk ⟨e, he, hh⟩
    rw [atF_none hn, decide_eq_true rfl, Bool.not_true]
    unfold thereB
    rw [List.any_eq_false]
    intro e he
    simp [hn e he]
end Go.Proofs.Ythciikogogkfcaa
