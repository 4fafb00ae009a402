/- Plain laws of dependency lists: joined with themselves, with none, in either order. -/
import Derived.Test.YthciikogogkfcaaDepsP
namespace Go.Proofs.Ythciikogogkfcaa

theorem lessD_irrefl (d : Dp) : lessD d d = false := by simp [lessD, stampLessB]
theorem putF_self {last : Int} {l : List Dp} {e : Dp} (h : okFrom last l = true) (he : e ∈ l) : putF l e = l := by
  induction l generalizing last with
  | nil => simp at he
  | cons x l ih =>
    simp only [okFrom, Bool.and_eq_true, decide_eq_true_eq] at h
    rw [putF]
    rcases List.mem_cons.1 he with rfl | hm
    · rw [if_pos rfl, lessD_irrefl]; rfl
    · have := okFrom_lt h.2 e hm
      rw [if_neg (by omega), if_neg (by omega), ih h.2 hm]
theorem joinF_self {l : List Dp} (h : depsOkB l = true) : joinF l l = l := by
  suffices H : ∀ m : List Dp, (∀ e ∈ m, e ∈ l) → joinF l m = l from H l (fun _ h => h)
  intro m hm
  induction m with
  | nil => rfl
  | cons e m ih =>
    show joinF (putF l e) m = l
    rw [putF_self h (hm e (by simp))]
    exact ih (fun x hx => hm x (by simp [hx]))
theorem joinF_nil (l : List Dp) : joinF l [] = l := rfl
theorem nil_joinF {l : List Dp} (h : depsOkB l = true) : joinF [] l = l := by
  suffices H : ∀ k, k ≤ l.length → joinF [] (l.take k) = l.take k by
    have := H l.length (Nat.le_refl _)
    rwa [List.take_length] at this
  intro k
  induction k with
  | zero => intro _; rfl
  | succ k ih =>
    intro hk
    rw [joinF_take [] l k (by omega), ih (by omega), putF_all, List.take_succ_eq_append_getElem (by omega)]
    intro e he
    have hok : okFrom (-1) (l.take k ++ l.drop k) = true := by rw [List.take_append_drop]; exact h
    have h1 := okFrom_lastK hok (l[k]'(by omega)) (by rw [List.drop_eq_getElem_cons (by omega)]; exact List.mem_cons_self ..)
    have h2 := okFrom_mem_le (okFrom_app _ _ _ hok) e he
    omega
theorem ok_nil : depsOkB [] = true := rfl
theorem joinR_self {l : List Dp} (h : depsOkB l = true) : joinR l l = l := by simp [joinR, h, joinF_self h]
theorem joinR_nil {l : List Dp} (h : depsOkB l = true) : joinR l [] = l := by rw [joinR, h, ok_nil]; rfl
theorem nil_joinR {l : List Dp} (h : depsOkB l = true) : joinR [] l = l := by
  rw [joinR, h, ok_nil]; exact nil_joinF h

/-! What a list tells of each key, and that a valid list is no more than that. -/
def pickS (key : Int) (l : List Dp) : Option (Int × Int) := (l.find? fun e => decide (e.1 = key)).map (·.2)
def maxS (a b : Int × Int) : Int × Int := if stampLessB a.1 a.2 b.1 b.2 then b else a
def maxO : Option (Int × Int) → Option (Int × Int) → Option (Int × Int)
  | none, y => y
  | x, none => x
  | some x, some y => some (maxS x y)
theorem less_trans {t s u v x y : Int} (h1 : stampLessB t s u v = true) (h2 : stampLessB u v x y = true) : stampLessB t s x y = true := by
  simp only [stampLessB, Bool.or_eq_true, Bool.and_eq_true, decide_eq_true_eq] at *
  omega
theorem less_false {t s u v : Int} : stampLessB t s u v = false ↔ (u < t ∨ u = t ∧ v ≤ s) := by
  simp only [stampLessB, Bool.or_eq_false_iff, Bool.and_eq_false_iff, decide_eq_false_iff_not]
  omega
theorem less_true {t s u v : Int} : stampLessB t s u v = true ↔ (t < u ∨ t = u ∧ s < v) := by
  simp only [stampLessB, Bool.or_eq_true, Bool.and_eq_true, decide_eq_true_eq]
theorem maxS_comm (a b : Int × Int) : maxS a b = maxS b a := by
  unfold maxS
  cases h1 : stampLessB a.1 a.2 b.1 b.2 with
  | true => rw [less_asymm h1]; rfl
  | false =>
    cases h2 : stampLessB b.1 b.2 a.1 a.2 with
    | true => rfl
    | false =>
      obtain ⟨e1, e2⟩ := less_total h1 h2
      exact Prod.ext e1 e2
theorem maxS_assoc (a b c : Int × Int) : maxS (maxS a b) c = maxS a (maxS b c) := by
  unfold maxS
  cases h1 : stampLessB a.1 a.2 b.1 b.2 <;> cases h2 : stampLessB b.1 b.2 c.1 c.2 <;> simp only [if_true, if_false, Bool.false_eq_true]
  · cases h3 : stampLessB a.1 a.2 c.1 c.2 with
    | false => simp [h1]
    | true => rw [less_false] at h1 h2; rw [less_true] at h3; omega
  · simp [h1, h2]
  · have := less_trans h1 h2; simp [h2, this]
theorem maxO_assoc (a b c : Option (Int × Int)) : maxO (maxO a b) c = maxO a (maxO b c) := by
  cases a <;> cases b <;> cases c <;> simp [maxO, maxS_assoc]
theorem maxO_comm (a b : Option (Int × Int)) : maxO a b = maxO b a := by
  cases a <;> cases b <;> simp [maxO, maxS_comm]
end Go.Proofs.Ythciikogogkfcaa
