/- Dependency lists as plain lists: what is valid, what a put gives, what is told of a key. No program in sight. -/
import Derived.Test.YthciikogogkfcaaStampW
namespace Go.Proofs.Ythciikogogkfcaa
open Go.RowKit

/-- A dependency: its key, and its stamp's time and site. -/
abbrev Dp := Int × Int × Int
def dpC (d : Dp) : List Value := [.int .i64 d.1, .int .i64 d.2.1, .int .i64 d.2.2]
def dpsC (l : List Dp) : List Value := l.flatMap dpC
theorem dpsC_len (l : List Dp) : (dpsC l).length = l.length * 3 := by
  induction l with
  | nil => rfl
  | cons p l ih => simp [dpsC, dpC] at ih ⊢; omega
theorem dpsC_get (l : List Dp) (i : Nat) (h : i < l.length) : (dpsC l)[i * 3]? = some (.int .i64 l[i].1) ∧ (dpsC l)[i * 3 + 1]? = some (.int .i64 l[i].2.1) ∧ (dpsC l)[i * 3 + 2]? = some (.int .i64 l[i].2.2) := by
  induction l generalizing i with
  | nil => simp at h
  | cons p l ih =>
    cases i with
    | zero => simp [dpsC, dpC]
    | succ i =>
      have := ih i (by simpa using h)
      have e1 : (i + 1) * 3 = (i * 3) + 1 + 1 + 1 := by omega
      simp only [dpsC, List.flatMap_cons, dpC, List.cons_append, List.nil_append, e1, List.getElem?_cons_succ, List.getElem_cons_succ] at this ⊢
      exact this
theorem dpsC_ne {l : List Dp} (h : 0 < l.length) : dpsC l ≠ [] := by
  intro e; have := dpsC_len l; rw [e] at this; simp at this; omega
theorem dpsC_snoc (l : List Dp) (d : Dp) : dpsC (l ++ [d]) = dpsC l ++ [.int .i64 d.1, .int .i64 d.2.1, .int .i64 d.2.2] := by simp [dpsC, dpC]
theorem dpsC_one (l : List Dp) : ∀ u ∈ dpsC l, u.oneCell' = true := by
  intro u hu
  simp only [dpsC, List.mem_flatMap, dpC, List.mem_cons, List.not_mem_nil, or_false] at hu
  obtain ⟨p, _, rfl | rfl | rfl⟩ := hu <;> rfl

def keyOk (n : Int) : Bool := inB n 0 5
def dpOk (d : Dp) : Bool := inB d.1 0 5 && stampOkB d.2.1 d.2.2
def lessD (a b : Dp) : Bool := stampLessB a.2.1 a.2.2 b.2.1 b.2.2
/-- Valid, behind a key. -/
def okFrom (last : Int) : List Dp → Bool
  | [] => true
  | d :: l => (decide (last < d.1) && dpOk d) && okFrom d.1 l
def depsOkB (l : List Dp) : Bool := okFrom (-1) l
def lastK (last : Int) : List Dp → Int
  | [] => last
  | d :: l => lastK d.1 l
theorem okFrom_snoc (last : Int) (l : List Dp) (d : Dp) : okFrom last (l ++ [d]) = (okFrom last l && (decide (lastK last l < d.1) && dpOk d)) := by
  induction l generalizing last with
  | nil => simp [okFrom, lastK]; rfl
  | cons e l ih => simp only [List.cons_append, okFrom, lastK, ih, Bool.and_assoc]; rfl
theorem lastK_snoc (last : Int) (l : List Dp) (d : Dp) : lastK last (l ++ [d]) = d.1 := by
  induction l generalizing last with
  | nil => rfl
  | cons e l ih => simp only [List.cons_append, lastK, ih]
theorem depsOk_take (l : List Dp) (k : Nat) (h : k < l.length) : depsOkB (l.take (k + 1)) = (depsOkB (l.take k) && (decide (lastK (-1) (l.take k) < l[k].1) && dpOk l[k])) ∧ lastK (-1) (l.take (k + 1)) = l[k].1 := by
  rw [List.take_succ_eq_append_getElem h]
  exact ⟨okFrom_snoc _ _ _, lastK_snoc _ _ _⟩
theorem okFrom_app (last : Int) (l m : List Dp) (h : okFrom last (l ++ m) = true) : okFrom last l = true := by
  induction l generalizing last with
  | nil => rfl
  | cons e l ih =>
    simp only [List.cons_append, okFrom, Bool.and_eq_true] at h ⊢
    exact ⟨h.1, ih _ h.2⟩
theorem depsOk_bad (l : List Dp) (k : Nat) (h : depsOkB (l.take k) = false) : depsOkB l = false := by
  rcases hb : depsOkB l with _ | _
  · rfl
  · rw [← List.take_append_drop k l] at hb
    have := okFrom_app _ _ _ hb
    rw [show okFrom (-1) (l.take k) = depsOkB (l.take k) from rfl, h] at this
    cases this
theorem lastK_ge (last : Int) (l : List Dp) (h : okFrom last l = true) : last ≤ lastK last l := by
  induction l generalizing last with
  | nil => exact Int.le_refl _
  | cons e l ih =>
    simp only [okFrom, Bool.and_eq_true, decide_eq_true_eq] at h
    have := ih _ h.2
    simp only [lastK]; omega
theorem lastK_le (last : Int) (l : List Dp) (h : okFrom last l = true) (hl : last ≤ 5) : lastK last l ≤ 5 := by
  induction l generalizing last with
  | nil => exact hl
  | cons e l ih =>
    simp only [okFrom, Bool.and_eq_true, dpOk, inB_iff] at h
    exact ih _ h.2 h.1.2.1.2
theorem lastK_prev (l : List Dp) (k : Nat) (h : k < l.length) (hk : 0 < k) : lastK (-1) (l.take k) = (l[k - 1]'(by omega)).1 := by
  obtain ⟨j, rfl⟩ : ∃ j, k = j + 1 := ⟨k - 1, by omega⟩
  exact (depsOk_take l j (by omega)).2

/-- A put: at its place, the newer of two of one key. -/
def putF (l : List Dp) (d : Dp) : List Dp :=
  match l with
  | [] => [d]
  | e :: l => if e.1 = d.1 then (if lessD e d then d else e) :: l else if d.1 < e.1 then d :: e :: l else e :: putF l d
def joinF (a b : List Dp) : List Dp := b.foldl putF a
def atF (l : List Dp) (key : Int) : Int × Int :=
  match l with
  | [] => (0, 0)
  | e :: l => if e.1 = key then e.2 else atF l key
def putR (l : List Dp) (d : Dp) : List Dp := if depsOkB l && dpOk d then putF l d else []
def joinR (a b : List Dp) : List Dp := if depsOkB a && depsOkB b then joinF a b else []
def atR (l : List Dp) (key : Int) : Int × Int := if depsOkB l then atF l key else (0, 0)

theorem okFrom_lt {last : Int} {l : List Dp} (h : okFrom last l = true) : ∀ e ∈ l, last < e.1 := by
  induction l generalizing last with
  | nil => simp
  | cons e l ih =>
    simp only [okFrom, Bool.and_eq_true, decide_eq_true_eq] at h
    intro x hx
    rcases List.mem_cons.1 hx with rfl | hx
    · exact h.1.1
    · have := ih h.2 x hx; omega
theorem okFrom_ok {last : Int} {l : List Dp} (h : okFrom last l = true) : ∀ e ∈ l, dpOk e = true := by
  induction l generalizing last with
  | nil => simp
  | cons e l ih =>
    simp only [okFrom, Bool.and_eq_true] at h
    intro x hx
    rcases List.mem_cons.1 hx with rfl | hx
    · exact h.1.2
    · exact ih h.2 x hx
/-- Put behind all that are ahead of it. -/
theorem putF_all {l : List Dp} {d : Dp} (h : ∀ e ∈ l, e.1 < d.1) : putF l d = l ++ [d] := by
  induction l with
  | nil => rfl
  | cons e l ih =>
    have he := h e (List.mem_cons_self ..)
    rw [putF, if_neg (by omega), if_neg (by omega), ih (fun x hx => h x (List.mem_cons_of_mem _ hx))]; rfl
/-- What stands behind the place stays. -/
theorem putF_snoc {l : List Dp} {d x : Dp} (h : ∃ e ∈ l, d.1 ≤ e.1) : putF (l ++ [x]) d = putF l d ++ [x] := by
  induction l with
  | nil => simp at h
  | cons e l ih =>
    simp only [List.cons_append, putF]
    by_cases h1 : e.1 = d.1
    · rw [if_pos h1, if_pos h1]; rfl
    · rw [if_neg h1, if_neg h1]
      by_cases h2 : d.1 < e.1
      · rw [if_pos h2, if_pos h2]; rfl
      · rw [if_neg h2, if_neg h2, List.cons_append, ih]
        obtain ⟨y, hy, hle⟩ := h
        rcases List.mem_cons.1 hy with rfl | hy
        · omega
        · exact ⟨y, hy, hle⟩
/-- Put at the end: behind all, at the last one's key, or just ahead of it. -/
theorem putF_last {l : List Dp} {d x : Dp} (h : ∀ e ∈ l, e.1 < d.1) : putF (l ++ [x]) d = l ++ putF [x] d := by
  induction l with
  | nil => rfl
  | cons e l ih =>
    have he := h e (List.mem_cons_self ..)
    rw [List.cons_append, putF, if_neg (by omega), if_neg (by omega), ih (fun y hy => h y (List.mem_cons_of_mem _ hy))]; rfl
theorem putF_len (l : List Dp) (d : Dp) : (putF l d).length ≤ l.length + 1 := by
  induction l with
  | nil => simp [putF]
  | cons e l ih =>
    rw [putF]
    split
    · simp
    · split
      · simp
      · simp; omega
theorem okFrom_len (last : Int) (l : List Dp) (h : okFrom last l = true) (hl : last ≤ 5) : (l.length : Int) ≤ 5 - last := by
  induction l generalizing last with
  | nil => simp; omega
  | cons e l ih =>
    simp only [okFrom, Bool.and_eq_true, decide_eq_true_eq, dpOk, inB_iff] at h
    have := ih _ h.2 h.1.2.1.2
    simp only [List.length_cons]
    push_cast
    omega
theorem depsOk_len {l : List Dp} (h : depsOkB l = true) : l.length ≤ 6 := by
  have := okFrom_len (-1) l h (by omega); omega
theorem putF_okFrom {last : Int} {l : List Dp} {d : Dp} (h : okFrom last l = true) (hd : dpOk d = true) (hl : last < d.1) : okFrom last (putF l d) = true := by
  induction l generalizing last with
  | nil => simp [putF, okFrom, hd, hl]
  | cons e l ih =>
    simp only [okFrom, Bool.and_eq_true, decide_eq_true_eq] at h
    rw [putF]
    split
    · rename_i h1
      split
      · simp only [okFrom, Bool.and_eq_true, decide_eq_true_eq]; exact ⟨⟨hl, hd⟩, h1 ▸ h.2⟩
      · simp only [okFrom, Bool.and_eq_true, decide_eq_true_eq]; exact h
    · split
      · rename_i h1 h2
        simp only [okFrom, Bool.and_eq_true, decide_eq_true_eq]; exact ⟨⟨hl, hd⟩, ⟨h2, h.1.2⟩, h.2⟩
      · rename_i h1 h2
        simp only [okFrom, Bool.and_eq_true, decide_eq_true_eq]
        exact ⟨h.1, ih h.2 (by omega)⟩
theorem putF_ok {l : List Dp} {d : Dp} (h : depsOkB l = true) (hd : dpOk d = true) : depsOkB (putF l d) = true :=
  putF_okFrom h hd (by simp only [dpOk, Bool.and_eq_true, inB_iff] at hd; omega)
theorem joinF_ok {a b : List Dp} (h : depsOkB a = true) (hb : ∀ d ∈ b, dpOk d = true) : depsOkB (joinF a b) = true := by
  induction b generalizing a with
  | nil => exact h
  | cons d b ih => exact ih (putF_ok h (hb d (List.mem_cons_self ..))) (fun x hx => hb x (List.mem_cons_of_mem _ hx))
theorem joinF_take (a b : List Dp) (k : Nat) (h : k < b.length) : joinF a (b.take (k + 1)) = putF (joinF a (b.take k)) b[k] := by
  rw [joinF, List.take_succ_eq_append_getElem h, List.foldl_append]; rfl
theorem dp_cond {last : Int} (h : -1 ≤ last) (d : Dp) : (decide (last < d.1) && dpOk d) = (inB d.1 (last + 1) 5 && stampOkB d.2.1 d.2.2) := by
  unfold dpOk
  rw [← Bool.and_assoc]
  congr 1
  rw [Bool.eq_iff_iff, Bool.and_eq_true, decide_eq_true_eq, inB_iff, inB_iff]
  omega
theorem depsOk_bd {l : List Dp} {k : Nat} (h : depsOkB (l.take k) = true) : -1 ≤ lastK (-1) (l.take k) ∧ lastK (-1) (l.take k) ≤ 5 := ⟨lastK_ge _ _ h, lastK_le _ _ h (by omega)⟩
theorem okFrom_mem_le {last : Int} {l : List Dp} (h : okFrom last l = true) : ∀ e ∈ l, e.1 ≤ lastK last l := by
  induction l generalizing last with
  | nil => simp
  | cons e l ih =>
    simp only [okFrom, Bool.and_eq_true, decide_eq_true_eq] at h
    intro x hx
    rcases List.mem_cons.1 hx with rfl | hx
    · exact lastK_ge _ _ h.2
    · exact ih h.2 x hx
theorem okFrom_lastK {last : Int} {l m : List Dp} (h : okFrom last (l ++ m) = true) : ∀ e ∈ m, lastK last l < e.1 := by
  induction l generalizing last with
  | nil => exact okFrom_lt h
  | cons e l ih =>
    simp only [List.cons_append, okFrom, Bool.and_eq_true] at h
    exact ih h.2
/-- How far a put has come. -/
def PutSt (l : List Dp) (d : Dp) (k : Nat) (out : List Dp) (done : Bool) : Prop :=
  (done = false ∧ out = l.take k ∧ ∀ e ∈ l.take k, e.1 < d.1) ∨ (done = true ∧ out = putF (l.take k) d ∧ ∃ e ∈ l.take k, d.1 ≤ e.1)
theorem PutSt.len {l : List Dp} {d : Dp} {k : Nat} {out : List Dp} {done : Bool} (h : PutSt l d k out done) (hk : k ≤ l.length) : out.length ≤ l.length + 1 := by
  rcases h with ⟨_, rfl, _⟩ | ⟨_, rfl, _⟩
  · simp; omega
  · have := putF_len (l.take k) d; simp at this; omega
theorem take_mem {l : List Dp} {k : Nat} (h : k < l.length) : l[k] ∈ l.take (k + 1) := by rw [List.take_succ_eq_append_getElem h]; exact List.mem_append.2 (.inr (List.mem_singleton.2 rfl))
theorem take_up {l : List Dp} {k : Nat} {e : Dp} (h : k < l.length) (he : e ∈ l.take k) : e ∈ l.take (k + 1) := by rw [List.take_succ_eq_append_getElem h]; exact List.mem_append.2 (.inl he)
theorem PutSt.same {l : List Dp} {d : Dp} {k : Nat} {out : List Dp} (h : PutSt l d k out false) (hlt : k < l.length) (he : l[k].1 = d.1) : PutSt l d (k + 1) (out ++ [if lessD l[k] d then d else l[k]]) true := by
  rcases h with ⟨_, rfl, ha⟩ | ⟨h, _⟩
  · refine .inr ⟨rfl, ?_, l[k], take_mem hlt, by omega⟩
    rw [List.take_succ_eq_append_getElem hlt, putF_last ha]
    simp [putF, he]
  · cases h
theorem PutSt.ahead {l : List Dp} {d : Dp} {k : Nat} {out : List Dp} (h : PutSt l d k out false) (hlt : k < l.length) (he : d.1 < l[k].1) : PutSt l d (k + 1) (out ++ [d] ++ [l[k]]) true := by
  rcases h with ⟨_, rfl, ha⟩ | ⟨h, _⟩
  · refine .inr ⟨rfl, ?_, l[k], take_mem hlt, by omega⟩
    rw [List.take_succ_eq_append_getElem hlt, putF_last ha]
    simp only [putF]
    rw [if_neg (by omega), if_pos he]; simp
  · cases h
theorem PutSt.behind {l : List Dp} {d : Dp} {k : Nat} {out : List Dp} (h : PutSt l d k out false) (hlt : k < l.length) (he : l[k].1 < d.1) : PutSt l d (k + 1) (out ++ [l[k]]) false := by
  rcases h with ⟨_, rfl, ha⟩ | ⟨h, _⟩
  · refine .inl ⟨rfl, (List.take_succ_eq_append_getElem hlt).symm, fun e hm => ?_⟩
    rw [List.take_succ_eq_append_getElem hlt] at hm
    rcases List.mem_append.1 hm with hm | hm
    · exact ha e hm
    · simp only [List.mem_singleton] at hm; subst hm; exact he
  · cases h
theorem PutSt.on {l : List Dp} {d : Dp} {k : Nat} {out : List Dp} (h : PutSt l d k out true) (hlt : k < l.length) : PutSt l d (k + 1) (out ++ [l[k]]) true := by
  rcases h with ⟨h, _⟩ | ⟨_, rfl, e, hm, hle⟩
  · cases h
  · exact .inr ⟨rfl, by rw [List.take_succ_eq_append_getElem hlt, putF_snoc ⟨e, hm, hle⟩], e, take_up hlt hm, hle⟩
theorem PutSt.past {l : List Dp} {d : Dp} {k : Nat} {out : List Dp} (h : PutSt l d k out true) (hok : depsOkB l = true) (hlt : k < l.length) : d.1 < l[k].1 := by
  rcases h with ⟨h, _⟩ | ⟨_, _, e, hm, hle⟩
  · cases h
  · have : e.1 < l[k].1 := by
      rw [← List.take_append_drop k l] at hok
      obtain ⟨j, hj, rfl⟩ := List.mem_iff_getElem.1 hm
      have hlast := okFrom_lastK hok l[k] (by rw [List.drop_eq_getElem_cons hlt]; exact List.mem_cons_self ..)
      have := okFrom_mem_le (okFrom_app _ _ _ hok) _ hm
      omega
    omega
theorem PutSt.done {l : List Dp} {d : Dp} {out : List Dp} {b : Bool} (h : PutSt l d l.length out b) : putF l d = if b then out else out ++ [d] := by
  rcases h with ⟨rfl, rfl, ha⟩ | ⟨rfl, rfl, _⟩
  · rw [List.take_length] at ha ⊢; rw [putF_all ha]; rfl
  · rw [List.take_length]; rfl
theorem less_total {t s u v : Int} (h1 : stampLessB t s u v = false) (h2 : stampLessB u v t s = false) : t = u ∧ s = v := by
  simp only [stampLessB, Bool.or_eq_false_iff, Bool.and_eq_false_iff, decide_eq_false_iff_not] at h1 h2
  omega
theorem less_asymm {t s u v : Int} (h : stampLessB t s u v = true) : stampLessB u v t s = false := by
  simp only [stampLessB, Bool.or_eq_false_iff, Bool.and_eq_false_iff, decide_eq_false_iff_not, Bool.or_eq_true, Bool.and_eq_true, decide_eq_true_eq] at h ⊢
  omega
theorem newer_same {e d : Dp} (h : e.1 = d.1) : (if lessD e d then d else e) = if lessD d e then e else d := by
  unfold lessD
  cases h1 : stampLessB e.2.1 e.2.2 d.2.1 d.2.2 with
  | true => rw [less_asymm h1]; rfl
  | false =>
    cases h2 : stampLessB d.2.1 d.2.2 e.2.1 e.2.2 with
    | true => rfl
    | false =>
      obtain ⟨a, b⟩ := less_total h1 h2
      obtain ⟨k, t, s⟩ := e
      obtain ⟨k', t', s'⟩ := d
      simp only at h a b
      subst h a b; rfl
theorem depsOk_one (d : Dp) : depsOkB [d] = dpOk d := by
  simp only [depsOkB, okFrom, Bool.and_true]
  cases h : dpOk d with
  | false => simp
  | true =>
    simp only [dpOk, Bool.and_eq_true, inB_iff] at h
    simp; omega
theorem reads_one (w : World) (d : Dp) (T : TypeId) {b : Nat} (hb : b = w.heap.size) : Reads (w.alloc (.cells #[.int .i64 d.1, .int .i64 d.2.1, .int .i64 d.2.2] T)) (some ⟨b, 0, none⟩) 1 1 (dpsC [d]) := by
  refine ⟨Nat.le_refl _, by unfold maxLen; omega, fun _ => ⟨b, 0, rfl, by subst hb; simp, fun j u hj => ?_⟩⟩
  have h := cell_three_at w (.int .i64 d.1) (.int .i64 d.2.1) (.int .i64 d.2.2) T hb j u (by simpa [dpsC, dpC] using hj)
  have e : (⟨b, 0, none⟩ : Addr).add j = ⟨b, 0 + j, none⟩ := by
    unfold Addr.add; split
    · rename_i h; subst h; rfl
    · rfl
  rwa [e] at h
end Go.Proofs.Ythciikogogkfcaa
