/- Lists of versions as plain data: where a version stands, the newest of a key, what is of a slot. No program in sight. -/
import Derived.Test.YthciikogogkfcaaVerP
namespace Go.Proofs.Ythciikogogkfcaa

def depLessB (k t s k' t' s' : Int) : Bool := decide (k < k') || (decide (k = k') && stampLessB t s t' s')
theorem vLess_dep (u v : Vp) : vLess u v = depLessB u.key u.time u.site v.key v.time v.site := rfl
/-- Has it this key and stamp? -/
def isV (v : Vp) (q : Dp) : Bool := decide (v.key = q.1) && (decide (v.time = q.2.1) && decide (v.site = q.2.2))
def posV (l : List Vp) (q : Dp) : Nat := l.findIdx fun v => isV v q
def placeI (l : List Vp) (q : Dp) : Int := if posV l q < l.length then (posV l q : Int) else -1
theorem posV_hit {l : List Vp} {q : Dp} {k : Nat} (h : k < l.length) (hn : ∀ v ∈ l.take k, isV v q = false) (hi : isV l[k] q = true) : posV l q = k := by
  unfold posV
  rw [List.findIdx_eq h]
  exact ⟨hi, fun j hj => hn _ (by rw [List.mem_take_iff_getElem]; exact ⟨j, by omega, rfl⟩)⟩
theorem posV_miss {l : List Vp} {q : Dp} (hn : ∀ v ∈ l, isV v q = false) : posV l q = l.length := by
  unfold posV
  exact List.findIdx_eq_length.2 hn
theorem placeI_hit {l : List Vp} {q : Dp} {k : Nat} (h : k < l.length) (hn : ∀ v ∈ l.take k, isV v q = false) (hi : isV l[k] q = true) : placeI l q = (k : Int) := by
  rw [placeI, posV_hit h hn hi, if_pos h]
theorem placeI_miss {l : List Vp} {q : Dp} (hn : ∀ v ∈ l, isV v q = false) : placeI l q = -1 := by
  rw [placeI, posV_miss hn, if_neg (by omega)]
theorem noneV_take {l : List Vp} {q : Dp} {k : Nat} (h : k < l.length) (hn : ∀ v ∈ l.take k, isV v q = false) (he : isV l[k] q = false) : ∀ v ∈ l.take (k + 1), isV v q = false := by
  intro v hm
  rw [List.take_succ_eq_append_getElem h] at hm
  rcases List.mem_append.1 hm with hm | hm
  · exact hn v hm
  · simp only [List.mem_singleton] at hm; subst hm; exact he
/-- The version found, if any. -/
def getV (l : List Vp) (q : Dp) : Option Vp := l[posV l q]?
def atV (l : List Vp) (q : Dp) : Option Vp := if chainOkB l then getV l q else none
def hasV (l : List Vp) (q : Dp) : Bool := decide (posV l q < l.length)
theorem hasV_get (l : List Vp) (q : Dp) : hasV l q = (getV l q).isSome := by
  unfold hasV getV
  by_cases h : posV l q < l.length
  · simp [h]
  · simp [h]
def hasAllB (l : List Vp) (d : List Dp) : Bool := d.all fun q => hasV l q
def chainHasB (l : List Vp) (d : List Dp) : Bool := chainOkB l && (depsOkB d && hasAllB l d)
theorem placeI_neg {l : List Vp} {q : Dp} : decide (placeI l q < 0) = !hasV l q := by
  unfold placeI hasV
  by_cases h : posV l q < l.length
  · rw [if_pos h, decide_eq_true h, decide_eq_false (by omega)]; rfl
  · rw [if_neg h, decide_eq_false h, decide_eq_true (by omega)]; rfl
theorem hasAllB_take (l : List Vp) (d : List Dp) (k : Nat) (h : k < d.length) : hasAllB l (d.take (k + 1)) = (hasAllB l (d.take k) && hasV l d[k]) := by
  unfold hasAllB; rw [List.take_succ_eq_append_getElem h, List.all_append]; simp
theorem hasAllB_bad {l : List Vp} {d : List Dp} (k : Nat) (h : k < d.length) (hb : hasV l d[k] = false) : hasAllB l d = false := by
  unfold hasAllB
  rw [List.all_eq_false]
  exact ⟨d[k], List.getElem_mem h, by simp [hb]⟩
/-- Where the first of the dependencies stands that is not there; -1 if all are. -/
def missI (l : List Vp) (d : List Dp) : Int := if hasAllB l d then -1 else ((d.findIdx fun q => !hasV l q : Nat) : Int)
theorem missI_hit {l : List Vp} {d : List Dp} {k : Nat} (h : k < d.length) (hn : hasAllB l (d.take k) = true) (hi : hasV l d[k] = false) : missI l d = (k : Int) := by
  rw [missI, hasAllB_bad k h hi, if_neg (by simp)]
  congr 1
  rw [List.findIdx_eq h]
  refine ⟨by rw [hi]; rfl, fun j hj => ?_⟩
  unfold hasAllB at hn
  rw [List.all_eq_true] at hn
  have := hn d[j] (by rw [List.mem_take_iff_getElem]; exact ⟨j, by omega, rfl⟩)
  rw [this]; rfl
theorem missI_none {l : List Vp} {d : List Dp} (hn : hasAllB l d = true) : missI l d = -1 := by rw [missI, if_pos hn]
theorem missI_ge {l : List Vp} {d : List Dp} : decide (0 ≤ missI l d) = !hasAllB l d := by
  unfold missI
  cases hasAllB l d with
  | true => rfl
  | false => rw [if_neg (by simp), decide_eq_true (by omega)]; rfl
theorem atV_bad {l : List Vp} {q : Dp} (h : chainOkB l = false) : atV l q = none := by rw [atV, if_neg (by simp [h])]
theorem atV_ok {l : List Vp} {q : Dp} (h : chainOkB l = true) : atV l q = getV l q := by rw [atV, if_pos h]
theorem getV_hit {l : List Vp} {q : Dp} {k : Nat} (h : k < l.length) (hn : ∀ v ∈ l.take k, isV v q = false) (hi : isV l[k] q = true) : getV l q = some l[k] := by
  unfold getV; rw [posV_hit h hn hi]; exact List.getElem?_eq_getElem h
theorem getV_miss {l : List Vp} {q : Dp} (hn : ∀ v ∈ l, isV v q = false) : getV l q = none := by
  unfold getV; rw [posV_miss hn]; simp
theorem getV_pos {l : List Vp} {q : Dp} (h : posV l q < l.length) : getV l q = some l[posV l q] := List.getElem?_eq_getElem h
theorem getV_neg {l : List Vp} {q : Dp} (h : ¬ posV l q < l.length) : getV l q = none := by
  unfold getV; simp; omega
theorem hasV_hit {l : List Vp} {q : Dp} {r : Option Vp} (h : getV l q = r) : hasV l q = r.isSome := by rw [hasV_get, h]
/-- The newest of a key: the last of it. -/
def topF (l : List Vp) (key : Int) : Option Vp := (l.filter fun v => decide (v.key = key)).getLast?
def topV (l : List Vp) (key : Int) : Option Vp := if chainOkB l then topF l key else none
def inSlot (slot : Int) (v : Vp) : Bool := decide (verSlotI v.key = slot)
def slotIn (l : List Vp) (slot : Int) : List Vp := if chainOkB l then l.filter (inSlot slot) else []
def slotOut (l : List Vp) (slot : Int) : List Vp := if chainOkB l then l.filter (fun v => !inSlot slot v) else []
end Go.Proofs.Ythciikogogkfcaa
