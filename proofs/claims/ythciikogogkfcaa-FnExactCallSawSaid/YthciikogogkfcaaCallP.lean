/- Calls of clients as plain data: what is valid, and how they lie in memory. No program in sight. -/
import Derived.Test.YthciikogogkfcaaServP
import Derived.Test.YthciikogogkfcaaVerO
import Derived.Test.YthciikogogkfcaaDepsM
import Derived.Test.YthciikogogkfcaaDepsN
namespace Go.Proofs.Ythciikogogkfcaa
open Go.RowKit
set_option linter.unusedVariables false

/-- An answer. -/
structure Ap where
  key : Int
  yes : Bool
  v : Vp
/-- An answer as it lies in memory: with the place of its dependencies. -/
structure An where
  p : Ap
  a : Option Addr
  c : Nat
def anC (m : An) : List Value := [.int .i64 m.p.key, .bool m.p.yes, .int .i64 m.p.v.key, .int .i64 m.p.v.time, .int .i64 m.p.v.site, .int .i64 m.p.v.val, .int .i64 m.p.v.client, .int .i64 m.p.v.call, .slice m.a m.p.v.deps.length m.c]
def ansC (l : List An) : List Value := l.flatMap anC
def ps (l : List An) : List Ap := l.map An.p
theorem ps_len (l : List An) : (ps l).length = l.length := by simp [ps]
theorem ps_get (l : List An) (k : Nat) (h : k < l.length) : (ps l)[k]'(by rw [ps_len]; exact h) = l[k].p := by simp [ps]
theorem ps_snoc (l : List An) (m : An) : ps (l ++ [m]) = ps l ++ [m.p] := by simp [ps]
theorem ps_take (l : List An) (k : Nat) : ps (l.take k) = (ps l).take k := by simp [ps, List.map_take]
theorem ansC_len (l : List An) : (ansC l).length = l.length * 9 := by
  induction l with
  | nil => rfl
  | cons p l ih => simp [ansC, anC] at ih ⊢; omega
theorem ansC_get (l : List An) (i : Nat) (h : i < l.length) : (ansC l)[i * 9]? = some (.int .i64 l[i].p.key) ∧ (ansC l)[i * 9 + 1]? = some (.bool l[i].p.yes) ∧ (ansC l)[i * 9 + 2]? = some (.int .i64 l[i].p.v.key) ∧ (ansC l)[i * 9 + 3]? = some (.int .i64 l[i].p.v.time) ∧ (ansC l)[i * 9 + 4]? = some (.int .i64 l[i].p.v.site) ∧
    (ansC l)[i * 9 + 5]? = some (.int .i64 l[i].p.v.val) ∧ (ansC l)[i * 9 + 6]? = some (.int .i64 l[i].p.v.client) ∧ (ansC l)[i * 9 + 7]? = some (.int .i64 l[i].p.v.call) ∧ (ansC l)[i * 9 + 8]? = some (.slice l[i].a l[i].p.v.deps.length l[i].c) := by
  induction l generalizing i with
  | nil => simp at h
  | cons p l ih =>
    cases i with
    | zero => simp [ansC, anC]
    | succ i =>
      have := ih i (by simpa using h)
      have e1 : (i + 1) * 9 = (i * 9) + 1 + 1 + 1 + 1 + 1 + 1 + 1 + 1 + 1 := by omega
      simp only [ansC, List.flatMap_cons, anC, List.cons_append, List.nil_append, e1, List.getElem?_cons_succ, List.getElem_cons_succ] at this ⊢
      exact this
theorem ansC_ne {l : List An} (h : 0 < l.length) : ansC l ≠ [] := by
  intro e; have := ansC_len l; rw [e] at this; simp at this; omega
theorem ansC_snoc (l : List An) (m : An) : ansC (l ++ [m]) = ansC l ++ anC m := by simp [ansC]
theorem anC_one (m : An) : ∀ u ∈ anC m, u.oneCell' = true := by
  intro u hu
  simp only [anC, List.mem_cons, List.not_mem_nil, or_false] at hu
  rcases hu with rfl | rfl | rfl | rfl | rfl | rfl | rfl | rfl | rfl <;> rfl
/-- A list of answers that can be read whole. -/
structure Ans (w : World) (a : Option Addr) (c : Nat) (l : List An) : Prop where
  rd : Reads w a l.length c (ansC l)
  dp : ∀ m ∈ l, Reads w m.a m.p.v.deps.length m.c (dpsC m.p.v.deps)
theorem Ans.below {w w' : World} {a : Option Addr} {c : Nat} {l : List An} (h : Ans w a c l) (hb : Below w.heap.size w w') : Ans w' a c l := ⟨h.rd.below hb, fun m hm => (h.dp m hm).below hb⟩
theorem Ans.at_ {w : World} {a : Option Addr} {c : Nat} {l : List An} (h : Ans w a c l) (k : Nat) (hk : k < l.length) : ∃ b off, a = some ⟨b, off, none⟩ ∧ b < w.heap.size ∧
    w.cell? ⟨b, off + k * 9, none⟩ = some (.int .i64 l[k].p.key) ∧ w.cell? ⟨b, off + k * 9 + 1, none⟩ = some (.bool l[k].p.yes) ∧ w.cell? ⟨b, off + k * 9 + 2, none⟩ = some (.int .i64 l[k].p.v.key) ∧ w.cell? ⟨b, off + k * 9 + 3, none⟩ = some (.int .i64 l[k].p.v.time) ∧ w.cell? ⟨b, off + k * 9 + 4, none⟩ = some (.int .i64 l[k].p.v.site) ∧
    w.cell? ⟨b, off + k * 9 + 5, none⟩ = some (.int .i64 l[k].p.v.val) ∧ w.cell? ⟨b, off + k * 9 + 6, none⟩ = some (.int .i64 l[k].p.v.client) ∧ w.cell? ⟨b, off + k * 9 + 7, none⟩ = some (.int .i64 l[k].p.v.call) ∧
    w.cell? ⟨b, off + k * 9 + 8, none⟩ = some (.slice l[k].a l[k].p.v.deps.length l[k].c) := by
  obtain ⟨_, _, h3⟩ := h.rd
  obtain ⟨b, off, rfl, hbl, hcell⟩ := h3 (ansC_ne (by omega))
  obtain ⟨g0, g1, g2, g3, g4, g5, g6, g7, g8⟩ := ansC_get l k hk
  refine ⟨b, off, rfl, hbl, hcell _ _ g0, ?_, ?_, ?_, ?_, ?_, ?_, ?_, ?_⟩
  · rw [Nat.add_assoc]; exact hcell _ _ g1
  · rw [Nat.add_assoc]; exact hcell _ _ g2
  · rw [Nat.add_assoc]; exact hcell _ _ g3
  · rw [Nat.add_assoc]; exact hcell _ _ g4
  · rw [Nat.add_assoc]; exact hcell _ _ g5
  · rw [Nat.add_assoc]; exact hcell _ _ g6
  · rw [Nat.add_assoc]; exact hcell _ _ g7
  · rw [Nat.add_assoc]; exact hcell _ _ g8
theorem Ans.get {w : World} {a : Option Addr} {c : Nat} {l : List An} (h : Ans w a c l) (k : Nat) (hk : k < l.length) : Reads w l[k].a l[k].p.v.deps.length l[k].c (dpsC l[k].p.v.deps) := h.dp _ (List.getElem_mem hk)
theorem Ans.len {w : World} {a : Option Addr} {c : Nat} {l : List An} (h : Ans w a c l) : l.length ≤ 9223372036854775807 := h.rd.len
def sumA (l : List An) : Nat := (l.map fun m => m.p.v.deps.length).sum
def FewA (l : List An) : Prop := l.length ≤ 1048577 ∧ ∀ m ∈ l, m.p.v.deps.length ≤ 1048577
theorem FewA.get {l : List An} (h : FewA l) (k : Nat) (hk : k < l.length) : l[k].p.v.deps.length ≤ 1048577 := h.2 _ (List.getElem_mem hk)
def sizeA (l : List An) : Nat := l.length + sumA l
theorem sumA_take (l : List An) (k : Nat) (h : k < l.length) : sumA (l.take (k + 1)) = sumA (l.take k) + l[k].p.v.deps.length := by
  unfold sumA; rw [List.take_succ_eq_append_getElem h, List.map_append, List.sum_append_nat]; simp
theorem sumA_mem (l : List An) (m : An) (h : m ∈ l) : m.p.v.deps.length ≤ sumA l := by
  induction l with
  | nil => simp at h
  | cons x l ih =>
    simp only [sumA, List.map_cons, List.sum_cons] at ih ⊢
    rcases List.mem_cons.1 h with rfl | h
    · omega
    · have := ih h; omega
theorem sumA_take_le (l : List An) (k : Nat) : sumA (l.take k) ≤ sumA l := by
  have : sumA l = sumA (l.take k) + sumA (l.drop k) := by unfold sumA; rw [← List.sum_append_nat, ← List.map_append, List.take_append_drop]
  omega
theorem fewA_of {l : List An} (h : sizeA l ≤ 1048576) : FewA l := ⟨by unfold sizeA at h; omega, fun m hm => by have := sumA_mem l m hm; unfold sizeA at h; omega⟩
theorem sumA_ps (l : List An) : sumA l = ((ps l).map fun p => p.v.deps.length).sum := by simp [sumA, ps, Function.comp_def]
theorem fewA_ps {l l' : List An} (h : ps l' = ps l) (hf : FewA l) : FewA l' := by
  refine ⟨by rw [← ps_len l', h, ps_len]; exact hf.1, fun m hm => ?_⟩
  have : m.p ∈ ps l := by rw [← h]; exact List.mem_map_of_mem hm
  obtain ⟨m', hm', e⟩ := List.mem_map.1 this
  rw [← e]; exact hf.2 m' hm'

/-! Keys. -/
def intC (k : Int) : Value := .int .i64 k
def intsC (l : List Int) : List Value := l.map intC
theorem intsC_len (l : List Int) : (intsC l).length = l.length := by simp [intsC]
theorem intsC_get (l : List Int) (k : Nat) (h : k < l.length) : (intsC l)[k]? = some (.int .i64 l[k]) := by simp [intsC, h, intC]
theorem intsC_ne {l : List Int} (h : 0 < l.length) : intsC l ≠ [] := by
  intro e; have := intsC_len l; rw [e] at this; simp at this; omega
def kFrom (last : Int) : List Int → Bool
  | [] => true
  | k :: l => (decide (last < k) && inB k 0 5) && kFrom k l
def lastI (last : Int) : List Int → Int
  | [] => last
  | k :: l => lastI k l
def kAscB (l : List Int) : Bool := kFrom (-1) l
theorem kFrom_snoc (last : Int) (l : List Int) (d : Int) : kFrom last (l ++ [d]) = (kFrom last l && (decide (lastI last l < d) && inB d 0 5)) := by
  induction l generalizing last with
  | nil => simp [kFrom, lastI]; rfl
  | cons e l ih => simp only [List.cons_append, kFrom, lastI, ih, Bool.and_assoc]; rfl
theorem lastI_snoc (last : Int) (l : List Int) (d : Int) : lastI last (l ++ [d]) = d := by
  induction l generalizing last with
  | nil => rfl
  | cons e l ih => simp only [List.cons_append, lastI, ih]
theorem kAsc_take (l : List Int) (k : Nat) (h : k < l.length) : kAscB (l.take (k + 1)) = (kAscB (l.take k) && (decide (lastI (-1) (l.take k) < l[k]) && inB l[k] 0 5)) ∧ lastI (-1) (l.take (k + 1)) = l[k] := by
  rw [List.take_succ_eq_append_getElem h]
  exact ⟨kFrom_snoc _ _ _, lastI_snoc _ _ _⟩
theorem kFrom_app (last : Int) (l m : List Int) (h : kFrom last (l ++ m) = true) : kFrom last l = true := by
  induction l generalizing last with
  | nil => rfl
  | cons e l ih =>
    simp only [List.cons_append, kFrom, Bool.and_eq_true] at h ⊢
    exact ⟨h.1, ih _ h.2⟩
theorem kAsc_bad (l : List Int) (k : Nat) (h : kAscB (l.take k) = false) : kAscB l = false := by
  rcases hb : kAscB l with _ | _
  · rfl
  · rw [← List.take_append_drop k l] at hb
    have := kFrom_app _ _ _ hb
    rw [show kFrom (-1) (l.take k) = kAscB (l.take k) from rfl, h] at this
    cases this
theorem lastI_bd (last : Int) (l : List Int) (h : kFrom last l = true) (hl : last ≤ 5) : last ≤ lastI last l ∧ lastI last l ≤ 5 := by
  induction l generalizing last with
  | nil => exact ⟨Int.le_refl _, hl⟩
  | cons e l ih =>
    simp only [kFrom, Bool.and_eq_true, decide_eq_true_eq, inB_iff] at h
    have := ih _ h.2 h.1.2.2
    simp only [lastI]; omega
theorem kAsc_bd {l : List Int} {k : Nat} (h : kAscB (l.take k) = true) : -1 ≤ lastI (-1) (l.take k) ∧ lastI (-1) (l.take k) ≤ 5 := lastI_bd _ _ h (by omega)
theorem lastI_prev (l : List Int) (k : Nat) (h : k < l.length) (hk : 0 < k) : lastI (-1) (l.take k) = l[k - 1]'(by omega) := by
  obtain ⟨j, rfl⟩ : ∃ j, k = j + 1 := ⟨k - 1, by omega⟩
  exact (kAsc_take l j (by omega)).2
theorem k_cond {last : Int} (h : -1 ≤ last) (d : Int) : (decide (last < d) && inB d 0 5) = inB d (last + 1) 5 := by
  rw [Bool.eq_iff_iff]
  simp only [Bool.and_eq_true, decide_eq_true_eq, inB_iff]
  omega
theorem kFrom_mem {last : Int} {l : List Int} (h : kFrom last l = true) : ∀ k ∈ l, last < k ∧ inB k 0 5 = true := by
  induction l generalizing last with
  | nil => simp
  | cons e l ih =>
    simp only [kFrom, Bool.and_eq_true, decide_eq_true_eq] at h
    intro x hx
    rcases List.mem_cons.1 hx with rfl | hx
    · exact h.1
    · have := ih h.2 x hx
      exact ⟨by omega, this.2⟩
def hasK (keys : List Int) (k : Int) : Bool := keys.any fun x => decide (x = k)
theorem hasK_mem {keys : List Int} {k : Int} : hasK keys k = true ↔ k ∈ keys := by
  unfold hasK; simp
theorem hasK_take (l : List Int) (k : Int) (j : Nat) (h : j < l.length) : hasK (l.take (j + 1)) k = (hasK (l.take j) k || decide (l[j] = k)) := by
  unfold hasK; rw [List.take_succ_eq_append_getElem h, List.any_append]; simp
theorem hasK_hit {l : List Int} {k : Int} (j : Nat) (h : j < l.length) (he : l[j] = k) : hasK l k = true := hasK_mem.2 (he ▸ List.getElem_mem h)
/-- Where it stands among the keys; -1 if it does not. -/
def idxK (l : List Int) (k : Int) : Int := if hasK l k then ((l.findIdx fun x => decide (x = k) : Nat) : Int) else -1
theorem idxK_hit {l : List Int} {k : Int} {j : Nat} (h : j < l.length) (hn : hasK (l.take j) k = false) (hi : l[j] = k) : idxK l k = (j : Int) := by
  rw [idxK, if_pos (hasK_hit j h hi)]
  congr 1
  rw [List.findIdx_eq h]
  refine ⟨by simp [hi], fun i hi' => ?_⟩
  rw [hasK, List.any_eq_false] at hn
  have := hn l[i] (by rw [List.mem_take_iff_getElem]; exact ⟨i, by omega, rfl⟩)
  simpa using this
theorem idxK_miss {l : List Int} {k : Int} (hn : hasK l k = false) : idxK l k = -1 := by rw [idxK, hn]; rfl
theorem idxK_ge {l : List Int} {k : Int} : decide (0 ≤ idxK l k) = hasK l k := by
  unfold idxK
  cases hasK l k with
  | true => rw [if_pos rfl, decide_eq_true (by omega)]
  | false => rfl
def keysB (kind : Int) (keys : List Int) : Bool := kAscB keys && ((decide (kind = 1) && decide (keys.length = 1)) || (decide (kind = 2) && inB (keys.length : Int) 1 3))

/-! Answers. -/
def zeroB (v : Vp) : Bool := decide (v.key = 0) && (decide (v.time = 0) && (decide (v.site = 0) && (decide (v.val = 0) && (decide (v.client = 0) && (decide (v.call = 0) && decide (v.deps.length = 0))))))
def answerB (a : Ap) : Bool := if a.yes then verOkB a.v && decide (a.v.key = a.key) else zeroB a.v
def answerS (a : Ap) : Bool := if a.yes then verOkB a.v && decide (a.v.key = a.key) else (inB a.key 0 5 && zeroB a.v)
/-- All are such, and their keys ascend, behind one. -/
def anFrom (q : Ap → Bool) : Option Int → List Ap → Bool
  | _, [] => true
  | p, a :: l => (q a && (match p with | none => true | some u => decide (u < a.key))) && anFrom q (some a.key) l
def lastA (p : Option Int) (l : List Ap) : Option Int := l.foldl (fun _ a => some a.key) p
theorem anFrom_snoc (q : Ap → Bool) (p : Option Int) (l : List Ap) (v : Ap) : anFrom q p (l ++ [v]) = (anFrom q p l && (q v && (match lastA p l with | none => true | some u => decide (u < v.key)))) := by
  induction l generalizing p with
  | nil => simp [anFrom, lastA]
  | cons x l ih => simp only [List.cons_append, anFrom, ih, Bool.and_assoc]; rfl
theorem lastA_snoc (p : Option Int) (l : List Ap) (v : Ap) : lastA p (l ++ [v]) = some v.key := by simp [lastA]
theorem an_take (q : Ap → Bool) (l : List Ap) (k : Nat) (h : k < l.length) : anFrom q none (l.take (k + 1)) = (anFrom q none (l.take k) && (q l[k] && (decide (k = 0) || decide ((l[k - 1]'(by omega)).key < l[k].key)))) := by
  rw [List.take_succ_eq_append_getElem h, anFrom_snoc]
  congr 2
  cases k with
  | zero => simp [lastA]
  | succ j => rw [List.take_succ_eq_append_getElem (by omega), lastA_snoc]; simp
theorem an_takeM (q : Ap → Bool) (l : List An) (k : Nat) (h : k < l.length) : anFrom q none ((ps l).take (k + 1)) = (anFrom q none ((ps l).take k) && (q l[k].p && (decide (k = 0) || decide ((l[k - 1]'(by omega)).p.key < l[k].p.key)))) := by
  rw [an_take q (ps l) k (by rw [ps_len]; exact h), ps_get l k h, ps_get l (k - 1) (by omega)]
theorem anFrom_app (q : Ap → Bool) (p : Option Int) (l m : List Ap) (h : anFrom q p (l ++ m) = true) : anFrom q p l = true := by
  induction l generalizing p with
  | nil => rfl
  | cons e l ih =>
    simp only [List.cons_append, anFrom, Bool.and_eq_true] at h ⊢
    exact ⟨h.1, ih _ h.2⟩
theorem an_bad (q : Ap → Bool) (l : List Ap) (k : Nat) (h : anFrom q none (l.take k) = false) : anFrom q none l = false := by
  rcases hb : anFrom q none l with _ | _
  · rfl
  · rw [← List.take_append_drop k l] at hb
    have := anFrom_app _ _ _ _ hb
    rw [h] at this
    cases this
theorem an_end {q : Ap → Bool} {l : List An} (h : anFrom q none ((ps l).take l.length) = true) : anFrom q none (ps l) = true := by
  rw [← ps_len l, List.take_length] at h; exact h
def qI (keys : List Int) (a : Ap) : Bool := hasK keys a.key && answerB a
def qS (keys : List Int) (a : Ap) : Bool := answerS a && hasK keys a.key
theorem anFrom_eq {q q' : Ap → Bool} (p : Option Int) (l : List Ap) (h : ∀ a ∈ l, q a = q' a) : anFrom q p l = anFrom q' p l := by
  induction l generalizing p with
  | nil => rfl
  | cons a l ih => simp only [anFrom, h a (by simp), ih _ (fun x hx => h x (by simp [hx]))]
theorem qIS {keys : List Int} (hk : kAscB keys = true) (a : Ap) : qS keys a = qI keys a := by
  unfold qS qI answerS answerB
  rcases hh : hasK keys a.key with _ | _
  · simp
  · have := (kFrom_mem hk _ (hasK_mem.1 hh)).2
    rw [this]
    cases a.yes <;> simp [Bool.and_comm]
theorem anFrom_all {q : Ap → Bool} {p : Option Int} {l : List Ap} (h : anFrom q p l = true) : ∀ a ∈ l, q a = true := by
  induction l generalizing p with
  | nil => simp
  | cons x l ih =>
    simp only [anFrom, Bool.and_eq_true] at h
    intro a ha
    rcases List.mem_cons.1 ha with rfl | ha
    · exact h.1.1
    · exact ih h.2 a ha
theorem anFrom_up {q : Ap → Bool} {u : Int} {l : List Ap} (h : anFrom q (some u) l = true) : ∀ a ∈ l, u < a.key := by
  induction l generalizing u with
  | nil => simp
  | cons x l ih =>
    simp only [anFrom, Bool.and_eq_true, decide_eq_true_eq] at h
    intro a ha
    rcases List.mem_cons.1 ha with rfl | ha
    · exact h.1.2
    · have := ih h.2 a ha
      have := h.1.2
      omega
/-- No more answers than keys. -/
theorem an_len {q : Ap → Bool} {keys : List Int} {last : Int} {p : Option Int} {l : List Ap} (hk : kFrom last keys = true) (h : anFrom q p l = true) (hm : ∀ a ∈ l, a.key ∈ keys) : l.length ≤ keys.length := by
  induction keys generalizing last p l with
  | nil =>
    cases l with
    | nil => simp
    | cons a l => exact absurd (hm a (by simp)) (by simp)
  | cons k keys ih =>
    simp only [kFrom, Bool.and_eq_true] at hk
    cases l with
    | nil => simp
    | cons a l =>
      simp only [anFrom, Bool.and_eq_true] at h
      have hup := anFrom_up h.2
      have hmin : ∀ x ∈ k :: keys, k ≤ x := by
        intro x hx
        rcases List.mem_cons.1 hx with rfl | hx
        · exact Int.le_refl _
        · have := (kFrom_mem hk.2 x hx).1; omega
      have := ih hk.2 h.2 (fun x hx => by
        have h1 := hup x hx
        rcases List.mem_cons.1 (hm x (by simp [hx])) with e | e
        · have := hmin a.key (hm a (by simp)); omega
        · exact e)
      simp; omega
/-- Where a key's answer stands. -/
def posA (l : List Ap) (k : Int) : Nat := l.findIdx fun a => decide (a.key = k)
def idxA (l : List Ap) (k : Int) : Int := if posA l k < l.length then (posA l k : Int) else -1
theorem posA_hit {l : List Ap} {k : Int} {j : Nat} (h : j < l.length) (hn : ∀ a ∈ l.take j, a.key ≠ k) (hi : l[j].key = k) : posA l k = j := by
  unfold posA
  rw [List.findIdx_eq h]
  exact ⟨by simp [hi], fun i hi' => by simpa using hn _ (by rw [List.mem_take_iff_getElem]; exact ⟨i, by omega, rfl⟩)⟩
theorem idxA_hit {l : List Ap} {k : Int} {j : Nat} (h : j < l.length) (hn : ∀ a ∈ l.take j, a.key ≠ k) (hi : l[j].key = k) : idxA l k = (j : Int) := by
  rw [idxA, posA_hit h hn hi, if_pos h]
theorem idxA_miss {l : List Ap} {k : Int} (hn : ∀ a ∈ l, a.key ≠ k) : idxA l k = -1 := by
  have : posA l k = l.length := by
    unfold posA
    exact List.findIdx_eq_length.2 fun a ha => by simpa using hn a ha
  rw [idxA, this, if_neg (by omega)]
theorem noneA_take {l : List Ap} {k : Int} {j : Nat} (h : j < l.length) (hn : ∀ a ∈ l.take j, a.key ≠ k) (he : l[j].key ≠ k) : ∀ a ∈ l.take (j + 1), a.key ≠ k := by
  intro v hm
  rw [List.take_succ_eq_append_getElem h] at hm
  rcases List.mem_append.1 hm with hm | hm
  · exact hn v hm
  · simp only [List.mem_singleton] at hm; subst hm; exact he
def getA (l : List Ap) (k : Int) : Option Ap := l[posA l k]?
theorem idxA_cases (l : List An) (k : Int) : (idxA (ps l) k = -1 ∧ getA (ps l) k = none) ∨ ∃ j, ∃ h : j < l.length, idxA (ps l) k = (j : Int) ∧ getA (ps l) k = some l[j].p := by
  unfold idxA getA
  by_cases h : posA (ps l) k < (ps l).length
  · right
    refine ⟨posA (ps l) k, by rw [← ps_len]; exact h, by rw [if_pos h], ?_⟩
    rw [List.getElem?_eq_getElem h, ps_get]
  · left
    exact ⟨by rw [if_neg h], by simp; omega⟩
theorem getA_mem {l : List Ap} {k : Int} {a : Ap} (h : getA l k = some a) : a ∈ l := List.mem_of_getElem? h
def olderA (a : Ap) (s : Int × Int) : Bool := !a.yes || stampLessB a.v.time a.v.site s.1 s.2
def needB (got : List Ap) (d : Dp) : Bool := match getA got d.1 with | none => false | some a => olderA a d.2
def needS (got : List Ap) (d : Dp) : Bool := match getA got d.1 with | none => false | some a => stampLessB a.v.time a.v.site d.2.1 d.2.2
def gotOkB (keys : List Int) (got : List Ap) (needs : List Dp) : Bool := anFrom (qI keys) none got && (needs.all (needB got) && (decide (needs.length = 0) || decide (got.length = keys.length)))

/-- A call, with the places of its lists. -/
structure Mc where
  client : Int
  num : Int
  kind : Int
  keys : List Int
  val : Int
  ctx : List Dp
  beg : Int
  fin : Int
  over : Bool
  time : Int
  site : Int
  got : List An
  needs : List Dp
  ka : Option Addr
  kc : Nat
  xa : Option Addr
  xc : Nat
  ga : Option Addr
  gc : Nat
  na : Option Addr
  nc : Nat
structure CallIn (w : World) (x : Mc) : Prop where
  ks : Reads w x.ka x.keys.length x.kc (intsC x.keys)
  cx : Reads w x.xa x.ctx.length x.xc (dpsC x.ctx)
  gt : Ans w x.ga x.gc x.got
  nd : Reads w x.na x.needs.length x.nc (dpsC x.needs)
theorem CallIn.below {w w' : World} {x : Mc} (h : CallIn w x) (hb : Below w.heap.size w w') : CallIn w' x := ⟨h.ks.below hb, h.cx.below hb, h.gt.below hb, h.nd.below hb⟩
structure FewC (x : Mc) : Prop where
  ks : x.keys.length ≤ 1048577
  cx : x.ctx.length ≤ 1048577
  gt : FewA x.got
  nd : x.needs.length ≤ 1048577
def noStamp (x : Mc) : Bool := decide (x.time = 0) && decide (x.site = 0)
def kindB (x : Mc) : Bool := if x.kind = 1 then decide ((x.got.length : Int) + (x.needs.length : Int) ≤ 0) else (decide (x.val = 0) && noStamp x)
def nextI (n : Int) : Int := IntKind.i64.wrap (n + 1)
def finB (x : Mc) (t : Int) : Bool := if x.fin = 0 then noStamp x else (!x.over && (inB x.fin (nextI x.beg) t && (decide (x.needs.length = 0) && (if x.kind = 1 then !noStamp x else decide (x.got.length = x.keys.length)))))
def callOkB (x : Mc) (t : Int) : Bool := inB x.client 0 1 && (inB x.num 1 99 && (keysB x.kind x.keys && (inB x.val 0 9999 && (depsOkB x.ctx && (depsOkB x.needs && (inB x.beg 1 t && (fitsB x.time x.site && (gotOkB x.keys (ps x.got) x.needs && (kindB x && finB x t)))))))))
/-- The same, in the reference's order. -/
def keysS (kind : Int) (keys : List Int) : Bool := inB (keys.length : Int) 1 3 && ((!decide (kind = 1) || decide (keys.length = 1)) && kAscB keys)
def kindS (x : Mc) : Bool := (!decide (x.kind = 1) || decide ((x.got.length : Int) + (x.needs.length : Int) ≤ 0)) && ((!decide (x.kind = 2) || (decide (x.val ≤ 0) && noStamp x)) && (fitsB x.time x.site && decide (x.got.length ≤ x.keys.length)))
def finS (x : Mc) (t : Int) : Bool := if x.fin = 0 then noStamp x else (!x.over && (inB x.fin (nextI x.beg) t && (decide (x.needs.length = 0) && ((decide (x.kind = 1) && stampOkB x.time x.site) || (decide (x.kind = 2) && decide (x.got.length = x.keys.length))))))
def callOkS (x : Mc) (t : Int) : Bool := inB x.client 0 1 && (inB x.num 1 99 && (inB x.kind 1 2 && (keysS x.kind x.keys && (inB x.val 0 9999 && (depsOkB x.ctx && (depsOkB x.needs && (inB x.beg 1 t && (kindS x && (anFrom (qS x.keys) none (ps x.got) && ((decide (x.needs.length = 0) || decide (x.keys.length ≤ x.got.length)) && (x.needs.all (needS (ps x.got)) && finS x t)))))))))))
theorem keysS_eq {kind : Int} {keys : List Int} : (inB kind 1 2 && keysS kind keys) = keysB kind keys := by
  rw [Bool.eq_iff_iff]
  simp only [keysS, keysB, Bool.and_eq_true, Bool.or_eq_true, Bool.not_eq_true', decide_eq_true_eq, decide_eq_false_iff_not, inB_iff]
  constructor
  · rintro ⟨h1, h2, h3, h4⟩
    refine ⟨h4, ?_⟩
    omega
  · rintro ⟨h1, h2⟩
    refine ⟨by omega, by omega, by omega, h1⟩
theorem fits_ok {t s : Int} (h : fitsB t s = true) (hn : (decide (t = 0) && decide (s = 0)) = false) : stampOkB t s = true := by
  unfold fitsB at h
  rw [hn] at h
  simpa using h
theorem ok_not_zero {t s : Int} (h : stampOkB t s = true) : (decide (t = 0) && decide (s = 0)) = false := by
  simp only [stampOkB, Bool.and_eq_true, inB_iff] at h
  rw [decide_eq_false (by omega)]; rfl
theorem needs_eq {got : List Ap} {needs : List Dp} (hz : ∀ a ∈ got, answerB a = true) (hd : ∀ d ∈ needs, dpOk d = true) : needs.all (needS got) = needs.all (needB got) := by
  induction needs with
  | nil => rfl
  | cons d l ih =>
    rw [List.all_cons, List.all_cons, ih (fun x hx => hd x (by simp [hx]))]
    congr 1
    unfold needS needB
    cases hg : getA got d.1 with
    | none => rfl
    | some a =>
      have h1 := hz a (getA_mem hg)
      have h2 := hd d (by simp)
      simp only [dpOk, stampOkB, Bool.and_eq_true, inB_iff] at h2
      show stampLessB a.v.time a.v.site d.2.1 d.2.2 = olderA a d.2
      unfold olderA
      unfold answerB at h1
      cases hy : a.yes with
      | true => rfl
      | false =>
        rw [hy] at h1
        simp only [zeroB, Bool.and_eq_true, decide_eq_true_eq, Bool.false_eq_true, if_false] at h1
        have h3 : decide (a.v.time < d.2.1) = true := decide_eq_true (by omega)
        unfold stampLessB
        rw [h3]; rfl
theorem callOk_eq (x : Mc) (t : Int) : callOkS x t = callOkB x t := by
  rw [Bool.eq_iff_iff]
  have hk := keysS_eq (kind := x.kind) (keys := x.keys)
  constructor
  · intro h
    simp only [callOkS, Bool.and_eq_true] at h
    obtain ⟨h1, h2, h3, h4, h5, h6, h7, h8, h9, h10, h11, h12, h13⟩ := h
    rw [h3, h4] at hk
    have hk' : keysB x.kind x.keys = true := hk.symm
    have hkk := hk'
    simp only [keysB, Bool.and_eq_true, Bool.or_eq_true, decide_eq_true_eq, inB_iff] at hkk
    have hq : anFrom (qI x.keys) none (ps x.got) = true := by rw [← h10]; exact (anFrom_eq none _ fun a _ => qIS hkk.1 a).symm
    have hall := anFrom_all hq
    have hz : ∀ a ∈ ps x.got, answerB a = true := fun a ha => by have := hall a ha; simp only [qI, Bool.and_eq_true] at this; exact this.2
    have hn := needs_eq hz (okFrom_ok h7)
    simp only [kindS, Bool.and_eq_true, Bool.or_eq_true, Bool.not_eq_true', decide_eq_true_eq, decide_eq_false_iff_not] at h9
    simp only [Bool.or_eq_true, decide_eq_true_eq] at h11
    simp only [inB_iff] at h5
    simp only [callOkB, Bool.and_eq_true]
    refine ⟨h1, h2, hk', inB_iff.2 h5, h6, h7, h8, h9.2.2.1, ?_, ?_, ?_⟩
    · simp only [gotOkB, Bool.and_eq_true, Bool.or_eq_true, decide_eq_true_eq, ps_len]
      exact ⟨hq, by rw [← hn]; exact h12, by omega⟩
    · unfold kindB
      split
      · rename_i hk1
        rw [decide_eq_true_eq]
        rcases h9.1 with h | h
        · exact absurd hk1 h
        · exact h
      · rename_i hk1
        rw [Bool.and_eq_true, decide_eq_true_eq]
        rcases h9.2.1 with h | h
        · exfalso; omega
        · exact ⟨by omega, h.2⟩
    · unfold finS at h13
      unfold finB
      split
      · rename_i hf; rw [if_pos hf] at h13; exact h13
      · rename_i hf
        rw [if_neg hf] at h13
        simp only [Bool.and_eq_true, Bool.or_eq_true, decide_eq_true_eq] at h13 ⊢
        refine ⟨h13.1, h13.2.1, h13.2.2.1, ?_⟩
        split
        · rename_i hk1
          rcases h13.2.2.2 with h | h
          · unfold noStamp; rw [ok_not_zero h.2]; rfl
          · exfalso; omega
        · rename_i hk1
          rcases h13.2.2.2 with h | h
          · exact absurd h.1 hk1
          · simpa using h.2
  · intro h
    simp only [callOkB, Bool.and_eq_true] at h
    obtain ⟨h1, h2, h3, h5, h6, h7, h8, h9, h10, h11, h12⟩ := h
    rw [h3, Bool.and_eq_true] at hk
    have hkk := h3
    simp only [keysB, Bool.and_eq_true, Bool.or_eq_true, decide_eq_true_eq, inB_iff] at hkk
    simp only [gotOkB, Bool.and_eq_true, Bool.or_eq_true, decide_eq_true_eq, ps_len] at h10
    have hall := anFrom_all h10.1
    have hz : ∀ a ∈ ps x.got, answerB a = true := fun a ha => by have := hall a ha; simp only [qI, Bool.and_eq_true] at this; exact this.2
    have hn := needs_eq hz (okFrom_ok h7)
    have hlen := an_len hkk.1 h10.1 (fun a ha => by have := hall a ha; simp only [qI, Bool.and_eq_true] at this; exact hasK_mem.1 this.1)
    rw [ps_len] at hlen
    have h5' := inB_iff.1 h5
    simp only [callOkS, Bool.and_eq_true]
    refine ⟨h1, h2, hk.1, hk.2, h5, h6, h7, h8, ?_, ?_, ?_, ?_, ?_⟩
    · simp only [kindS, Bool.and_eq_true, Bool.or_eq_true, Bool.not_eq_true', decide_eq_true_eq, decide_eq_false_iff_not]
      unfold kindB at h11
      split at h11
      · rename_i hk1
        rw [decide_eq_true_eq] at h11
        exact ⟨.inr h11, .inl (by omega), h9, hlen⟩
      · rename_i hk1
        rw [Bool.and_eq_true, decide_eq_true_eq] at h11
        exact ⟨.inl hk1, .inr ⟨by omega, h11.2⟩, h9, hlen⟩
    · rw [← h10.1]; exact anFrom_eq none _ fun a _ => qIS hkk.1 a
    · simp only [Bool.or_eq_true, decide_eq_true_eq]
      omega
    · rw [hn]; exact h10.2.1
    · unfold finB at h12
      unfold finS
      split
      · rename_i hf; rw [if_pos hf] at h12; exact h12
      · rename_i hf
        rw [if_neg hf] at h12
        simp only [Bool.and_eq_true, Bool.or_eq_true, decide_eq_true_eq] at h12 ⊢
        refine ⟨h12.1, h12.2.1, h12.2.2.1, ?_⟩
        have h13 := h12.2.2.2
        split at h13
        · rename_i hk1
          left
          refine ⟨hk1, fits_ok h9 ?_⟩
          unfold noStamp at h13
          simpa only [Bool.not_eq_true'] using h13
        · rename_i hk1
          right
          exact ⟨by omega, by simpa using h13⟩
end Go.Proofs.Ythciikogogkfcaa
