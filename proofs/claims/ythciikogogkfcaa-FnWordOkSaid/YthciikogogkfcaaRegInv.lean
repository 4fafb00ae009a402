/- A region that draws its order, by an invariant over what has come up; its last operation waits for all others. -/
import Derived.Test.YthciikogogkfcaaOver
import Derived.StillTail
namespace Go.Proofs.Ythciikogogkfcaa
open Go.RowKit
set_option linter.unusedVariables false

section
variable {P : Program} {ops : Array Oper} {Q : Exit → Act → World → Prop} {md : Region.Mode}
/-- Every edge leads back. -/
def backB (md : Region.Mode) (ops : Array Oper) : Bool := (List.range ops.size).all fun i => match ops[i]? with | some o => o.after.all fun e => !Region.binds md e || decide (e.on < i) | none => true
theorem backB_spec (h : backB md ops = true) {i : Nat} {o : Oper} (ho : ops[i]? = some o) {e : Edge} (he : e ∈ o.after) (hb : Region.binds md e = true) : e.on < i := by
  have hi : i < ops.size := (Array.getElem?_eq_some_iff.1 ho).1
  unfold backB at h
  rw [List.all_eq_true] at h
  have h1 := h i (List.mem_range.2 hi)
  rw [ho] at h1
  simp only [Array.all_eq_true'] at h1
  have h2 := h1 e he
  rw [hb] at h2
  simpa using h2
def closedL (md : Region.Mode) (ops : Array Oper) (listed : Array Bool) : Prop := ∀ j o, ops[j]? = some o → listed.getD j false = true → ∀ e ∈ o.after, Region.binds md e = true → listed.getD e.on false = true
theorem getD_set_iff {listed : Array Bool} {i j : Nat} (hi : i < listed.size) : (listed.setIfInBounds i true).getD j false = true ↔ (j = i ∨ listed.getD j false = true) := by
  by_cases h : i = j
  · subst h; simp [hi]
  · rw [getD_set_ne false h]
    constructor
    · exact fun h => .inr h
    · rintro (h' | h')
      · exact absurd h'.symm h
      · exact h'
def left (listed : Array Bool) : Nat := listed.toList.countP (fun b => !b)
theorem left_set {listed : Array Bool} {i : Nat} (hi : i < listed.size) (h : listed.getD i true = false) : left (listed.setIfInBounds i true) + 1 = left listed := by
  have h1 : listed[i] = false := by simpa [hi] using h
  have hl : i < listed.toList.length := by simpa using hi
  unfold left
  rw [Array.toList_setIfInBounds, List.countP_set hl]
  have h2 : listed.toList[i] = false := by simpa using h1
  have h3 : 0 < listed.toList.countP (fun b => !b) := List.countP_pos_iff.2 ⟨listed.toList[i], List.getElem_mem hl, by rw [h2]; rfl⟩
  rw [h2]
  show List.countP (fun b => !b) listed.toList - 1 + 0 + 1 = _
  omega
theorem left_zero {listed : Array Bool} (h : left listed = 0) (i : Nat) (hi : i < listed.size) : listed.getD i false = true := by
  unfold left at h
  rw [List.countP_eq_zero] at h
  have hl : i < listed.toList.length := by simpa using hi
  have := h listed.toList[i] (List.getElem_mem hl)
  simp at this
  simp [hi, this]
theorem wpAny_inv (hback : backB md ops = true) (I : Nat → Array Bool → Act → World → Prop)
    (step : ∀ n listed a w i o, ops[i]? = some o → closedL md ops listed → listed.getD i true = false → (∀ e ∈ o.after, Region.binds md e = true → listed.getD e.on false = true) → I (n + 1) listed a w → wpOp P ops Q i (I n (listed.setIfInBounds i true)) a w)
    (done : ∀ n listed a w, (∀ i, i < ops.size → listed.getD i false = true) → I n listed a w → Q .normal a w) :
    ∀ (fuel : Nat) (listed : Array Bool) (a : Act) (w : World), listed.size = ops.size → left listed ≤ fuel → closedL md ops listed → I fuel listed a w → wpAny P md ops Q fuel listed a w := by
  intro fuel
  have hall : ∀ listed : Array Bool, listed.size = ops.size → Region.ready md ops listed = [] → ∀ i, i < ops.size → listed.getD i false = true := by
    intro listed hs hr i
    induction i using Nat.strongRecOn with
    | ind i ih =>
      intro hi
      rcases hb : listed.getD i false with _ | _
      · exfalso
        have hm : i ∈ Region.ready md ops listed := by
          refine mem_ready.2 ⟨?_, ops[i], Array.getElem?_eq_getElem hi, fun e he hbd => ?_⟩
          · have : i < listed.size := by omega
            simpa [this] using hb
          · have hlt := backB_spec hback (Array.getElem?_eq_getElem hi) he hbd
            exact ih e.on hlt (by omega)
        rw [hr] at hm
        cases hm
      · rfl
  induction fuel with
  | zero =>
    intro listed a w hs hl hc hI
    have ha : ∀ i, i < ops.size → listed.getD i false = true := fun i hi => left_zero (by omega) i (by omega)
    refine ⟨?_, done 0 listed a w ha hI⟩
    cases hr : Region.ready md ops listed with
    | nil => rfl
    | cons i l =>
      exfalso
      have hm : i ∈ Region.ready md ops listed := by rw [hr]; simp
      obtain ⟨h0, o, ho, _⟩ := mem_ready.1 hm
      have hi : i < ops.size := (Array.getElem?_eq_some_iff.1 ho).1
      have h1 := ha i hi
      have hi2 : i < listed.size := by omega
      simp [hi2] at h0 h1
      rw [h0] at h1
      cases h1
  | succ fuel ih =>
    intro listed a w hs hl hc hI
    refine ⟨fun hr => done _ listed a w (hall listed hs hr) hI, fun i hi => ?_⟩
    obtain ⟨h0, o, ho, hd⟩ := mem_ready.1 hi
    have hilt : i < ops.size := (Array.getElem?_eq_some_iff.1 ho).1
    have hil : i < listed.size := by omega
    refine wpOp_mono (fun a' w' hI' => ih _ a' w' (by simpa using hs) (by have := left_set hil h0; omega) (fun j oj hoj hj e he hb => ?_) hI') (step fuel listed a w i o ho hc h0 hd hI)
    rw [getD_set_iff hil] at hj ⊢
    right
    rcases hj with rfl | hj
    · rw [ho] at hoj
      obtain rfl : o = oj := Option.some.inj hoj
      exact hd e he hb
    · exact hc j oj hoj hj e he hb
/-- All others have come up ahead of the last. -/
theorem sink_all {n : Nat} (hsink : Region.sinkB md ops n = true) {listed : Array Bool} (hc : closedL md ops listed) {o : Oper} (ho : ops[n]? = some o) (hd : ∀ e ∈ o.after, Region.binds md e = true → listed.getD e.on false = true) :
    ∀ j, j < n → listed.getD j false = true := by
  have key : ∀ d j, j < n → n - j ≤ d → listed.getD j false = true := by
    intro d
    induction d with
    | zero => intro j hj h; omega
    | succ d ih =>
      intro j hj h
      unfold Region.sinkB at hsink
      rw [List.all_eq_true] at hsink
      have h1 := hsink j (List.mem_range.2 hj)
      rw [List.any_eq_true] at h1
      obtain ⟨k, hk, h2⟩ := h1
      have hk' := List.mem_range.1 hk
      simp only [Bool.and_eq_true, decide_eq_true_eq] at h2
      obtain ⟨ok, hok, e, he, hb, heq⟩ := Region.waitsFor_spec h2.2
      rw [← heq]
      by_cases hkn : k = n
      · subst hkn
        rw [ho] at hok
        obtain rfl : o = ok := Option.some.inj hok
        exact hd e he hb
      · exact hc k ok hok (ih k (by omega) (by omega)) e he hb
  exact fun j hj => key (n - j) j hj (Nat.le_refl _)
theorem wp_region_last {id n : Nat} {a : Act} {w : World} (hm : P.follows .mixedOrders = true) (hsz : ops.size = n + 1) (hback : backB .any ops = true) (hsink : Region.sinkB .any ops n = true)
    (I : Nat → Array Bool → Act → World → Prop) (h0 : I ops.size (Array.replicate ops.size false) a w.drew)
    (step : ∀ k listed a w i o, i < n → listed.size = ops.size → ops[i]? = some o → listed.getD i true = false → (∀ e ∈ o.after, Region.binds .any e = true → listed.getD e.on false = true) → I (k + 1) listed a w → wpOp P ops Q i (I k (listed.setIfInBounds i true)) a w)
    (last : ∀ k listed a w, (∀ i, i < n → listed.getD i false = true) → I (k + 1) listed a w → wpOp P ops Q n (fun a' w' => Q .normal a' w') a w) : (Code.region id ops true).wp P Q a w := by
  refine wp_region_any hm ?_
  refine wpAny_inv hback (fun k listed a w => listed.size = ops.size ∧ if listed.getD n false = true then (∀ i, i < n → listed.getD i false = true) ∧ Q .normal a w else I k listed a w) ?_ ?_ _ _ _ _ (by simp) (by rw [left]; exact Nat.le_trans List.countP_le_length (by simp)) ?_ ?_
  · intro k listed a w i o ho hc hu hd hJ
    obtain ⟨hs, hJ⟩ := hJ
    have hilt : i < ops.size := (Array.getElem?_eq_some_iff.1 ho).1
    have hil : i < listed.size := by omega
    have huf : listed.getD i false = false := by simpa [hil] using hu
    by_cases hin : i = n
    · subst hin
      rw [if_neg (by rw [huf]; decide)] at hJ
      have hall := sink_all hsink hc ho hd
      refine wpOp_mono (fun a' w' hq => ⟨by simpa using hs, ?_⟩) (last k listed a w hall hJ)
      rw [if_pos ((getD_set_iff hil).2 (.inl rfl))]
      exact ⟨fun j hj => (getD_set_iff hil).2 (.inr (hall j hj)), hq⟩
    · have hlt : i < n := by omega
      by_cases hnl : listed.getD n false = true
      · rw [if_pos hnl] at hJ
        have := hJ.1 i hlt
        rw [huf] at this
        cases this
      · rw [if_neg hnl] at hJ
        refine wpOp_mono (fun a' w' hq => ⟨by simpa using hs, ?_⟩) (step k listed a w i o hlt hs ho hu hd hJ)
        rw [if_neg (fun h => by
          rcases (getD_set_iff hil).1 h with h | h
          · exact hin h.symm
          · exact hnl h)]
        exact hq
  · intro k listed a w hall hJ
    obtain ⟨hs, hJ⟩ := hJ
    rw [if_pos (hall n (by omega))] at hJ
    exact hJ.2
  · intro j o ho hj
    have : j < ops.size := (Array.getElem?_eq_some_iff.1 ho).1
    simp [this] at hj
  · refine ⟨by simp, ?_⟩
    rw [if_neg (by rw [hsz]; simp)]
    exact h0
end
end Go.Proofs.Ythciikogogkfcaa
