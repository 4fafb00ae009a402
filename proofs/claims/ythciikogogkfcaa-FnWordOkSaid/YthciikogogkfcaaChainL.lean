/- Lists of versions as plain data: their order, and what a put does. No program in sight. -/
import Derived.Test.YthciikogogkfcaaChainP
namespace Go.Proofs.Ythciikogogkfcaa
set_option linter.unusedVariables false

def depV (v : Vp) : Dp := (v.key, v.time, v.site)
theorem isV_iff (v : Vp) (q : Dp) : isV v q = true ↔ depV v = q := by obtain ⟨a, b, c⟩ := q; simp [isV, depV]
theorem isV_no {v : Vp} {q : Dp} (h : depV v ≠ q) : isV v q = false := by
  rcases hb : isV v q with _ | _
  · rfl
  · exact absurd ((isV_iff v q).1 hb) h
theorem vLess_iff (a b : Vp) : vLess a b = true ↔ a.key < b.key ∨ (a.key = b.key ∧ (a.time < b.time ∨ (a.time = b.time ∧ a.site < b.site))) := by simp [vLess, stampLessB]
theorem vLess_no {a b : Vp} : vLess a b = false ↔ ¬ (a.key < b.key ∨ (a.key = b.key ∧ (a.time < b.time ∨ (a.time = b.time ∧ a.site < b.site)))) := by
  rw [← vLess_iff]; simp
theorem dep_eq {a b : Vp} : depV a = depV b ↔ a.key = b.key ∧ a.time = b.time ∧ a.site = b.site := by simp [depV]
theorem vLess_same {a b : Vp} (h : depV a = depV b) : vLess a b = false := by rw [vLess_no]; rw [dep_eq] at h; omega
theorem vLess_ne {a b : Vp} (h : vLess a b = true) : depV a ≠ depV b := fun e => by rw [vLess_same e] at h; cases h
theorem vLess_tr {a b c : Vp} (h : vLess a b = true) (k : vLess b c = true) : vLess a c = true := by rw [vLess_iff] at *; omega
theorem vLess_tot {a b : Vp} (h : vLess a b = false) (hn : depV a ≠ depV b) : vLess b a = true := by
  rw [vLess_no] at h; rw [vLess_iff]; rw [Ne, dep_eq] at hn; omega
theorem vLess_as {a b : Vp} (h : vLess a b = true) : vLess b a = false := by rw [vLess_no]; rw [vLess_iff] at h; omega
abbrev Sorted (l : List Vp) : Prop := l.Pairwise fun a b => vLess a b = true
theorem chFrom_iff (u : Vp) (l : List Vp) : chFrom (some u) l = true ↔ (∀ v ∈ l, verOkB v = true) ∧ Sorted (u :: l) := by
  induction l generalizing u with
  | nil => simp [chFrom]
  | cons v l ih =>
    simp only [chFrom, Bool.and_eq_true, ih v, List.mem_cons, forall_eq_or_imp, Sorted, List.pairwise_cons]
    constructor
    · rintro ⟨⟨h1, h2⟩, h3, h4, h5⟩
      exact ⟨⟨h1, h3⟩, ⟨h2, fun x hx => vLess_tr h2 (h4 x hx)⟩, h4, h5⟩
    · rintro ⟨⟨h1, h3⟩, ⟨h2, _⟩, h4, h5⟩
      exact ⟨⟨h1, h2⟩, h3, h4, h5⟩
theorem chB_iff (l : List Vp) : chB l = true ↔ (∀ v ∈ l, verOkB v = true) ∧ Sorted l := by
  cases l with
  | nil => simp [chB, chFrom]
  | cons v l =>
    unfold chB
    simp only [chFrom, Bool.and_true, Bool.and_eq_true, chFrom_iff, List.mem_cons, forall_eq_or_imp]
    constructor
    · rintro ⟨h1, h2, h3⟩; exact ⟨⟨h1, h2⟩, h3⟩
    · rintro ⟨⟨h1, h2⟩, h3⟩; exact ⟨h1, h2, h3⟩
structure Good (l : List Vp) : Prop where
  ok : ∀ v ∈ l, verOkB v = true
  srt : Sorted l
  len : l.length ≤ 80
theorem good_iff (l : List Vp) : chainOkB l = true ↔ Good l := by
  unfold chainOkB
  rw [Bool.and_eq_true, chB_iff, decide_eq_true_iff]
  exact ⟨fun ⟨⟨a, b⟩, c⟩ => ⟨a, b, c⟩, fun h => ⟨⟨h.ok, h.srt⟩, h.len⟩⟩
theorem sorted_one {l : List Vp} (h : Sorted l) {a b : Vp} (ha : a ∈ l) (hb : b ∈ l) (e : depV a = depV b) : a = b := by
  obtain ⟨i, hi, rfl⟩ := List.getElem_of_mem ha
  obtain ⟨j, hj, rfl⟩ := List.getElem_of_mem hb
  rcases Nat.lt_trichotomy i j with hij | rfl | hij
  · exact absurd e (vLess_ne (List.pairwise_iff_getElem.1 h i j hi hj hij))
  · rfl
  · exact absurd e.symm (vLess_ne (List.pairwise_iff_getElem.1 h j i hj hi hij))
theorem sorted_ext {l m : List Vp} (hl : Sorted l) (hm : Sorted m) (h : ∀ v, v ∈ l ↔ v ∈ m) : l = m := by
  induction l generalizing m with
  | nil =>
    cases m with
    | nil => rfl
    | cons b m => have := (h b).2 (by simp); simp at this
  | cons a l ih =>
    cases m with
    | nil => have := (h a).1 (by simp); simp at this
    | cons b m =>
      have hl' := List.pairwise_cons.1 hl
      have hm' := List.pairwise_cons.1 hm
      obtain rfl : a = b := by
        rcases List.mem_cons.1 ((h a).1 (by simp)) with e | ha
        · exact e
        · rcases List.mem_cons.1 ((h b).2 (by simp)) with e | hb
          · exact e.symm
          · have h1 := vLess_as (hm'.1 a ha)
            rw [hl'.1 b hb] at h1; cases h1
      congr 1
      refine ih hl'.2 hm'.2 fun v => ⟨fun hv => ?_, fun hv => ?_⟩
      · rcases List.mem_cons.1 ((h v).1 (by simp [hv])) with rfl | h'
        · exact absurd rfl (vLess_ne (hl'.1 v hv))
        · exact h'
      · rcases List.mem_cons.1 ((h v).2 (by simp [hv])) with rfl | h'
        · exact absurd rfl (vLess_ne (hm'.1 v hv))
        · exact h'
/-- A version in its place. -/
def putV (l : List Vp) (v : Vp) : List Vp := l.takeWhile (fun u => vLess u v) ++ v :: l.dropWhile (fun u => vLess u v)
theorem putV_nil (v : Vp) : putV [] v = [v] := rfl
theorem putV_cons (a : Vp) (l : List Vp) (v : Vp) : putV (a :: l) v = if vLess a v then a :: putV l v else v :: a :: l := by
  unfold putV
  rw [List.takeWhile_cons, List.dropWhile_cons]
  by_cases h : vLess a v = true
  · simp [h]
  · simp [h]
theorem mem_putV (l : List Vp) (v x : Vp) : x ∈ putV l v ↔ x = v ∨ x ∈ l := by
  induction l with
  | nil => simp [putV_nil]
  | cons a l ih =>
    rw [putV_cons]; split
    · simp only [List.mem_cons, ih]; constructor
      · rintro (h | h | h) <;> simp [h]
      · rintro (h | h | h) <;> simp [h]
    · simp only [List.mem_cons]
theorem putV_len (l : List Vp) (v : Vp) : (putV l v).length = l.length + 1 := by
  induction l with
  | nil => rfl
  | cons a l ih => rw [putV_cons]; split <;> simp [ih]
theorem sorted_putV {l : List Vp} {v : Vp} (h : Sorted l) (hn : ∀ x ∈ l, depV x ≠ depV v) : Sorted (putV l v) := by
  induction l with
  | nil => simp [putV_nil]
  | cons a l ih =>
    have h' := List.pairwise_cons.1 h
    rw [putV_cons]
    split
    · rename_i hlt
      refine List.pairwise_cons.2 ⟨fun x hx => ?_, ih h'.2 fun x hx => hn x (by simp [hx])⟩
      rcases (mem_putV l v x).1 hx with rfl | hx
      · exact hlt
      · exact h'.1 x hx
    · rename_i hlt
      have hva := vLess_tot (by simpa using hlt) (hn a (by simp))
      refine List.pairwise_cons.2 ⟨fun x hx => ?_, h⟩
      rcases List.mem_cons.1 hx with rfl | hx
      · exact hva
      · exact vLess_tr hva (h'.1 x hx)
theorem hasV_iff (l : List Vp) (q : Dp) : hasV l q = true ↔ ∃ v ∈ l, depV v = q := by
  unfold hasV posV
  rw [decide_eq_true_iff, List.findIdx_lt_length]
  constructor
  · rintro ⟨v, hv, h⟩; exact ⟨v, hv, (isV_iff v q).1 h⟩
  · rintro ⟨v, hv, h⟩; exact ⟨v, hv, (isV_iff v q).2 h⟩
theorem hasV_no {l : List Vp} {q : Dp} : hasV l q = false ↔ ∀ v ∈ l, depV v ≠ q := by
  constructor
  · intro h v hv e
    rw [(hasV_iff l q).2 ⟨v, hv, e⟩] at h; cases h
  · intro h
    rcases hb : hasV l q with _ | _
    · rfl
    · obtain ⟨v, hv, e⟩ := (hasV_iff l q).1 hb
      exact absurd e (h v hv)
theorem getV_some {l : List Vp} {q : Dp} {v : Vp} (h : getV l q = some v) : v ∈ l ∧ depV v = q := by
  unfold getV at h
  obtain ⟨hk, rfl⟩ := List.getElem?_eq_some_iff.1 h
  refine ⟨List.getElem_mem hk, ?_⟩
  have := @List.findIdx_getElem _ (fun v => isV v q) l hk
  exact (isV_iff _ q).1 this
theorem getV_mem {l : List Vp} {v : Vp} (hs : Sorted l) (hv : v ∈ l) : getV l (depV v) = some v := by
  have h := (hasV_iff l (depV v)).2 ⟨v, hv, rfl⟩
  rw [hasV_get, Option.isSome_iff_exists] at h
  obtain ⟨u, hu⟩ := h
  obtain ⟨h1, h2⟩ := getV_some hu
  rw [hu, sorted_one hs h1 hv h2]
theorem getV_no {l : List Vp} {q : Dp} (h : hasV l q = false) : getV l q = none := by
  rw [hasV_get] at h; simpa using h
/-! What a put gives. -/
def chainPutB (l : List Vp) (v : Vp) : Bool := chainOkB l && (verOkB v && (!hasV l (depV v) && decide (l.length < 80)))
def chainPutL (l : List Vp) (v : Vp) : List Vp := if chainOkB l then (if chainPutB l v then putV l v else l) else []
theorem put_bad {l : List Vp} {v : Vp} (h : chainOkB l = false) : chainPutB l v = false ∧ chainPutL l v = [] := by simp [chainPutB, chainPutL, h]
theorem put_not {l : List Vp} {v : Vp} (h : chainOkB l = true) (h2 : (verOkB v && (!hasV l (depV v) && decide (l.length < 80))) = false) : chainPutB l v = false ∧ chainPutL l v = l := by
  have hb : chainPutB l v = false := by rw [chainPutB, h2, Bool.and_false]
  exact ⟨hb, by rw [chainPutL, if_pos h, hb]; rfl⟩
theorem put_yes {l : List Vp} {v : Vp} (h : chainOkB l = true) (h2 : (verOkB v && (!hasV l (depV v) && decide (l.length < 80))) = true) : chainPutB l v = true ∧ chainPutL l v = putV l v := by
  have hb : chainPutB l v = true := by rw [chainPutB, h2, h]; rfl
  exact ⟨hb, by rw [chainPutL, if_pos h, hb]; rfl⟩
theorem putB_iff (l : List Vp) (v : Vp) : chainPutB l v = true ↔ Good l ∧ verOkB v = true ∧ (∀ x ∈ l, depV x ≠ depV v) ∧ l.length < 80 := by
  unfold chainPutB
  simp only [Bool.and_eq_true, good_iff, Bool.not_eq_true', hasV_no, decide_eq_true_iff]
theorem putL_yes {l : List Vp} {v : Vp} (h : chainPutB l v = true) : chainPutL l v = putV l v := by
  have := (putB_iff l v).1 h
  rw [chainPutL, if_pos ((good_iff l).2 this.1), if_pos h]
theorem putL_no {l : List Vp} {v : Vp} (hk : chainOkB l = true) (h : chainPutB l v = false) : chainPutL l v = l := by rw [chainPutL, if_pos hk, h]; rfl
theorem good_put {l : List Vp} {v : Vp} (h : chainPutB l v = true) : Good (putV l v) := by
  obtain ⟨hg, hv, hn, hl⟩ := (putB_iff l v).1 h
  refine ⟨fun x hx => ?_, sorted_putV hg.srt hn, by rw [putV_len]; omega⟩
  rcases (mem_putV l v x).1 hx with rfl | hx
  · exact hv
  · exact hg.ok x hx
theorem putL_len (l : List Vp) (v : Vp) : (chainPutL l v).length ≤ l.length + 1 := by
  unfold chainPutL; split
  · split
    · rw [putV_len]; omega
    · omega
  · simp
theorem putL_mem {l : List Vp} {v x : Vp} (h : x ∈ chainPutL l v) : x = v ∨ x ∈ l := by
  unfold chainPutL at h; split at h
  · split at h
    · exact (mem_putV l v x).1 h
    · exact .inr h
  · simp at h
/-- A put again is none. -/
theorem put_again {l : List Vp} {v : Vp} (h : chainPutB l v = true) : chainPutB (putV l v) v = false := by
  rcases hb : chainPutB (putV l v) v with _ | _
  · rfl
  · exact absurd rfl (((putB_iff _ _).1 hb).2.2.1 v ((mem_putV l v v).2 (.inl rfl)))
/-- Two puts, in either order. -/
theorem put_turn {l : List Vp} {u v : Vp} (h : chainPutB l v = true) (h2 : chainPutB (putV l v) u = true) : chainPutB l u = true ∧ chainPutB (putV l u) v = true ∧ putV (putV l u) v = putV (putV l v) u := by
  obtain ⟨hg, hv, hn, hl⟩ := (putB_iff l v).1 h
  obtain ⟨hg2, hu, hn2, hl2⟩ := (putB_iff _ u).1 h2
  rw [putV_len] at hl2
  have hlu : chainPutB l u = true := (putB_iff l u).2 ⟨hg, hu, fun x hx => hn2 x ((mem_putV l v x).2 (.inr hx)), by omega⟩
  have huv : depV v ≠ depV u := hn2 v ((mem_putV l v v).2 (.inl rfl))
  have hluv : chainPutB (putV l u) v = true := (putB_iff _ v).2 ⟨good_put hlu, hv, fun x hx => by
    rcases (mem_putV l u x).1 hx with rfl | hx
    · exact fun e => huv e.symm
    · exact hn x hx, by rw [putV_len]; omega⟩
  refine ⟨hlu, hluv, sorted_ext (good_put hluv).srt (good_put h2).srt fun x => ?_⟩
  simp only [mem_putV]
  constructor
  · rintro (h | h | h) <;> simp [h]
  · rintro (h | h | h) <;> simp [h]
/-! The newest of a key. -/
theorem topF_at {l : List Vp} {key : Int} {k : Nat} (h : k < l.length) (hk : l[k].key = key) (hn : ∀ x ∈ l.drop (k + 1), ¬ x.key = key) : topF l key = some l[k] := by
  unfold topF
  have e : l = l.take k ++ l[k] :: l.drop (k + 1) := by rw [← List.drop_eq_getElem_cons h, List.take_append_drop]
  conv => lhs; rw [e]
  rw [List.filter_append, List.filter_cons, if_pos (by simpa using hk)]
  have hz : (l.drop (k + 1)).filter (fun v => decide (v.key = key)) = [] := by
    rw [List.filter_eq_nil_iff]; intro x hx; simpa using hn x hx
  rw [hz]; simp
theorem topF_miss {l : List Vp} {key : Int} (hn : ∀ x ∈ l, ¬ x.key = key) : topF l key = none := by
  unfold topF
  have hz : l.filter (fun v => decide (v.key = key)) = [] := by
    rw [List.filter_eq_nil_iff]; intro x hx; simpa using hn x hx
  rw [hz]; rfl
theorem topF_some {l : List Vp} {key : Int} {v : Vp} (h : topF l key = some v) : v ∈ l ∧ v.key = key := by
  unfold topF at h
  have := List.mem_of_getLast? h
  rw [List.mem_filter] at this
  exact ⟨this.1, by simpa using this.2⟩
theorem topF_none {l : List Vp} {key : Int} (h : topF l key = none) : ∀ x ∈ l, ¬ x.key = key := by
  unfold topF at h
  rw [List.getLast?_eq_none_iff, List.filter_eq_nil_iff] at h
  intro x hx; simpa using h x hx
theorem topF_max {l : List Vp} (hs : Sorted l) {key : Int} {v x : Vp} (h : topF l key = some v) (hx : x ∈ l) (hk : x.key = key) : x = v ∨ vLess x v = true := by
  unfold topF at h
  have hp : Sorted (l.filter fun v => decide (v.key = key)) := hs.filter _
  have hm : x ∈ l.filter fun v => decide (v.key = key) := List.mem_filter.2 ⟨hx, by simpa using hk⟩
  revert hp hm h
  generalize l.filter (fun v => decide (v.key = key)) = m
  intro h hp hm
  obtain ⟨m', rfl⟩ := List.getLast?_eq_some_iff.1 h
  have hp' := List.pairwise_append.1 hp
  rcases List.mem_append.1 hm with hm | hm
  · exact .inr (hp'.2.2 x hm v (by simp))
  · simp only [List.mem_singleton] at hm; exact .inl hm
theorem top_notless {l : List Vp} (hs : Sorted l) {key : Int} {v x : Vp} (h : topF l key = some v) (hx : x ∈ l) (hk : x.key = key) : stampLessB v.time v.site x.time x.site = false := by
  have hv := (topF_some h).2
  rcases topF_max hs h hx hk with rfl | hl
  · simp [stampLessB]
  · rw [vLess_iff] at hl
    simp only [stampLessB, Bool.or_eq_false_iff, decide_eq_false_iff_not, Bool.and_eq_false_imp, decide_eq_true_iff]
    omega
/-- The newest never gets older: it stays, or the one that was put is it. -/
theorem top_grow {l : List Vp} {v a : Vp} {key : Int} (h : chainPutB l v = true) (ha : topF l key = some a) : ∃ b, topF (putV l v) key = some b ∧ stampLessB b.time b.site a.time a.site = false ∧ (b = a ∨ b = v) := by
  have hg := ((putB_iff l v).1 h).1
  have hg2 := good_put h
  obtain ⟨ha1, ha2⟩ := topF_some ha
  cases hb : topF (putV l v) key with
  | none => exact absurd ha2 (topF_none hb a ((mem_putV l v a).2 (.inr ha1)))
  | some b =>
    refine ⟨b, rfl, top_notless hg2.srt hb ((mem_putV l v a).2 (.inr ha1)) ha2, ?_⟩
    obtain ⟨hb1, hb2⟩ := topF_some hb
    rcases (mem_putV l v b).1 hb1 with rfl | hb1
    · exact .inr rfl
    · left
      rcases topF_max hg.srt ha hb1 hb2 with e | hl
      · exact e
      · rcases topF_max hg2.srt hb ((mem_putV l v a).2 (.inr ha1)) ha2 with e | hl2
        · exact e.symm
        · rw [vLess_as hl] at hl2; cases hl2
/-! Slots. -/
theorem inSlot_key {v : Vp} (h : verOkB v = true) : verSlotI v.key = 0 ∨ verSlotI v.key = 1 ∨ verSlotI v.key = 2 := by
  have hk : inB v.key 0 5 = true := by
    simp only [verOkB, headOkB, Bool.and_eq_true] at h; exact h.1.1
  have hb := inB_iff.1 hk
  rw [verSlotI, if_pos hk]; omega
theorem slots_sum {l : List Vp} (h : ∀ v ∈ l, verOkB v = true) : (l.filter (inSlot 0)).length + (l.filter (inSlot 1)).length + (l.filter (inSlot 2)).length = l.length := by
  induction l with
  | nil => rfl
  | cons v l ih =>
    have := ih fun x hx => h x (by simp [hx])
    have hv := inSlot_key (h v (by simp))
    simp only [List.filter_cons, inSlot]
    rcases hv with e | e | e <;> simp [e] at this ⊢ <;> omega
theorem slots_two (l : List Vp) (s : Int) : (l.filter (inSlot s)).length + (l.filter (fun v => !inSlot s v)).length = l.length := by
  induction l with
  | nil => rfl
  | cons v l ih => simp only [List.filter_cons]; cases inSlot s v <;> simp at ih ⊢ <;> omega
end Go.Proofs.Ythciikogogkfcaa
