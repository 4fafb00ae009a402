/- A valid list is what it tells of each key; so joins are associative and commutative. -/
import Derived.Test.YthciikogogkfcaaDepsL
namespace Go.Proofs.Ythciikogogkfcaa

theorem pickS_cons (key : Int) (e : Dp) (l : List Dp) : pickS key (e :: l) = if e.1 = key then some e.2 else pickS key l := by
  unfold pickS
  rw [List.find?_cons]
  by_cases h : e.1 = key
  · simp [h]
  · simp [h]
theorem pickS_none {key : Int} {l : List Dp} (h : ∀ e ∈ l, e.1 ≠ key) : pickS key l = none := by
  induction l with
  | nil => rfl
  | cons e l ih => rw [pickS_cons, if_neg (h e (by simp))]; exact ih (fun x hx => h x (by simp [hx]))
theorem pickS_put {last : Int} {l : List Dp} {d : Dp} (h : okFrom last l = true) (key : Int) : pickS key (putF l d) = if d.1 = key then maxO (pickS key l) (some d.2) else pickS key l := by
  induction l generalizing last with
  | nil => rw [putF, pickS_cons]; split <;> rfl
  | cons e l ih =>
    simp only [okFrom, Bool.and_eq_true, decide_eq_true_eq] at h
    have hgt := okFrom_lt h.2
    rw [putF]
    by_cases h1 : e.1 = d.1
    · rw [if_pos h1, pickS_cons, pickS_cons]
      have hk1 : (if lessD e d = true then d else e).1 = d.1 := by
        cases lessD e d with
        | true => rfl
        | false => exact h1
      have hk2 : (if lessD e d = true then d else e).2 = maxS e.2 d.2 := by
        unfold maxS lessD
        cases stampLessB e.2.1 e.2.2 d.2.1 d.2.2 <;> rfl
      rw [hk1, hk2, h1]
      by_cases hk : d.1 = key
      · rw [if_pos hk, if_pos hk, if_pos hk]; rfl
      · rw [if_neg hk, if_neg hk, if_neg hk]
    · rw [if_neg h1]
      by_cases h2 : d.1 < e.1
      · rw [if_pos h2, pickS_cons]
        by_cases hk : d.1 = key
        · rw [if_pos hk, if_pos hk, pickS_none (l := e :: l) (by
            intro x hx
            rcases List.mem_cons.1 hx with rfl | hx
            · omega
            · have := hgt x hx; omega)]
          rfl
        · rw [if_neg hk, if_neg hk]
      · rw [if_neg h2, pickS_cons, pickS_cons, ih h.2]
        by_cases hk : e.1 = key
        · rw [if_pos hk, if_pos hk, if_neg (by omega)]
        · rw [if_neg hk, if_neg hk]
theorem okFrom_ext {last : Int} {l m : List Dp} (hl : okFrom last l = true) (hm : okFrom last m = true) (h : ∀ key, pickS key l = pickS key m) : l = m := by
  induction l generalizing last m with
  | nil =>
    cases m with
    | nil => rfl
    | cons y m => have := h y.1; rw [pickS_cons, if_pos rfl] at this; cases this
  | cons x l ih =>
    cases m with
    | nil => have := h x.1; rw [pickS_cons, if_pos rfl] at this; cases this
    | cons y m =>
      simp only [okFrom, Bool.and_eq_true, decide_eq_true_eq] at hl hm
      have hgl := okFrom_lt hl.2
      have hgm := okFrom_lt hm.2
      have hxy : x.1 = y.1 := by
        rcases Int.lt_trichotomy x.1 y.1 with hlt | heq | hgt
        · have := h x.1
          rw [pickS_cons, if_pos rfl, pickS_none (l := y :: m) (by
            intro z hz
            rcases List.mem_cons.1 hz with rfl | hz
            · omega
            · have := hgm z hz; omega)] at this
          cases this
        · exact heq
        · have := h y.1
          rw [pickS_cons y.1 y m, if_pos rfl, pickS_none (l := x :: l) (by
            intro z hz
            rcases List.mem_cons.1 hz with rfl | hz
            · omega
            · have := hgl z hz; omega)] at this
          cases this
      have hxe : x = y := by
        have := h x.1
        rw [pickS_cons, if_pos rfl, pickS_cons, if_pos hxy.symm] at this
        exact Prod.ext hxy (by simpa using this)
      subst hxe
      congr 1
      refine ih hl.2 hm.2 (fun key => ?_)
      by_cases hk : x.1 = key
      · rw [pickS_none (fun e he => by have := hgl e he; omega), pickS_none (fun e he => by have := hgm e he; omega)]
      · have := h key
        rwa [pickS_cons, if_neg hk, pickS_cons, if_neg hk] at this
theorem depsOk_ext {l m : List Dp} (hl : depsOkB l = true) (hm : depsOkB m = true) (h : ∀ key, pickS key l = pickS key m) : l = m := okFrom_ext hl hm h
theorem maxO_none (x : Option (Int × Int)) : maxO x none = x := by cases x <;> rfl
theorem none_maxO (x : Option (Int × Int)) : maxO none x = x := by cases x <;> rfl
theorem pickS_join {last : Int} {a b : List Dp} (ha : depsOkB a = true) (hb : okFrom last b = true) (key : Int) : pickS key (joinF a b) = maxO (pickS key a) (pickS key b) := by
  induction b generalizing a last with
  | nil => exact (maxO_none _).symm
  | cons d b ih =>
    have hok := okFrom_ok hb
    simp only [okFrom, Bool.and_eq_true, decide_eq_true_eq] at hb
    show pickS key (joinF (putF a d) b) = _
    rw [ih (putF_ok ha (hok d (by simp))) hb.2, pickS_put ha, pickS_cons]
    by_cases hk : d.1 = key
    · rw [if_pos hk, if_pos hk, pickS_none (l := b) (fun e he => by have := okFrom_lt hb.2 e he; omega), maxO_none]
    · rw [if_neg hk, if_neg hk]
theorem joinR_okB {a b : List Dp} (ha : depsOkB a = true) (hb : depsOkB b = true) : depsOkB (joinR a b) = true := by
  rw [joinR, ha, hb]; exact joinF_ok ha (okFrom_ok hb)
theorem pickS_joinR {a b : List Dp} (ha : depsOkB a = true) (hb : depsOkB b = true) (key : Int) : pickS key (joinR a b) = maxO (pickS key a) (pickS key b) := by
  rw [joinR, ha, hb]; exact pickS_join ha hb key
theorem joinR_comm {a b : List Dp} (ha : depsOkB a = true) (hb : depsOkB b = true) : joinR b a = joinR a b :=
  depsOk_ext (joinR_okB hb ha) (joinR_okB ha hb) (fun key => by rw [pickS_joinR hb ha, pickS_joinR ha hb, maxO_comm])
theorem joinR_assoc {a b c : List Dp} (ha : depsOkB a = true) (hb : depsOkB b = true) (hc : depsOkB c = true) : joinR (joinR a b) c = joinR a (joinR b c) :=
  depsOk_ext (joinR_okB (joinR_okB ha hb) hc) (joinR_okB ha (joinR_okB hb hc)) (fun key => by
    rw [pickS_joinR (joinR_okB ha hb) hc, pickS_joinR ha hb, pickS_joinR ha (joinR_okB hb hc), pickS_joinR hb hc, maxO_assoc])
theorem stampOkB_iff' {t s : Int} : stampOkB t s = true ↔ (1 ≤ t ∧ t ≤ 9999) ∧ (0 ≤ s ∧ s ≤ 3) := by simp [stampOkB, inB]
theorem atF_pick (l : List Dp) (key : Int) : atF l key = (pickS key l).getD (0, 0) := by
  induction l with
  | nil => rfl
  | cons e l ih =>
    rw [atF, pickS_cons]
    by_cases h : e.1 = key
    · rw [if_pos h, if_pos h]; rfl
    · rw [if_neg h, if_neg h, ih]
theorem pickS_time {last : Int} {l : List Dp} (h : okFrom last l = true) {key : Int} {y : Int × Int} (hp : pickS key l = some y) : 1 ≤ y.1 := by
  induction l generalizing last with
  | nil => cases hp
  | cons e l ih =>
    have hok := okFrom_ok h e (List.mem_cons_self ..)
    simp only [okFrom, Bool.and_eq_true] at h
    rw [pickS_cons] at hp
    split at hp
    · simp only [Option.some.injEq] at hp
      subst hp
      simp only [dpOk, Bool.and_eq_true, stampOkB_iff'] at hok
      exact hok.2.1.1
    · exact ih h.2 hp
theorem atR_ok {l : List Dp} (h : depsOkB l = true) (key : Int) : atR l key = (pickS key l).getD (0, 0) := by rw [atR, h, if_pos rfl, atF_pick]
theorem atR_joinR {a b : List Dp} (ha : depsOkB a = true) (hb : depsOkB b = true) (key : Int) : atR (joinR a b) key = maxS (atR a key) (atR b key) := by
  rw [atR_ok (joinR_okB ha hb), atR_ok ha, atR_ok hb, pickS_joinR ha hb]
  cases h1 : pickS key a with
  | none =>
    cases h2 : pickS key b with
    | none => simp [maxO, maxS]
    | some y =>
      have := pickS_time hb h2
      simp only [maxO, Option.getD_some, Option.getD_none, maxS]
      rw [if_pos (less_true.2 (.inl (by omega)))]
  | some x =>
    have hx := pickS_time ha h1
    cases h2 : pickS key b with
    | none =>
      simp only [maxO, Option.getD_some, Option.getD_none, maxS]
      rw [if_neg (by rw [less_true]; omega)]
    | some y => rfl
end Go.Proofs.Ythciikogogkfcaa
