/- Lists of versions as plain data: a slot's versions, put one by one to all others, give all. No program in sight. -/
import Derived.Test.YtdheoaefmacamaaChainL
namespace Go.Proofs.Ytdheoaefmacamaa
set_option linter.unusedVariables false

theorem good_filter {l : List Vp} (h : Good l) (p : Vp → Bool) : Good (l.filter p) := ⟨fun v hv => h.ok v (List.mem_filter.1 hv).1, h.srt.filter _, Nat.le_trans (List.length_filter_le _ _) h.len⟩
structure SlSt (l : List Vp) (s : Int) (k : Nat) (X : List Vp) : Prop where
  good : Good X
  mem : ∀ v, v ∈ X ↔ v ∈ slotOut l s ∨ v ∈ (slotIn l s).take k
  len : X.length = (slotOut l s).length + k
theorem slotOut_ok {l : List Vp} (hk : chainOkB l = true) (s : Int) : slotOut l s = l.filter (fun v => !inSlot s v) := by rw [slotOut, if_pos hk]
theorem slotIn_ok {l : List Vp} (hk : chainOkB l = true) (s : Int) : slotIn l s = l.filter (inSlot s) := by rw [slotIn, if_pos hk]
theorem SlSt.start {l : List Vp} (hk : chainOkB l = true) (s : Int) : SlSt l s 0 (slotOut l s) :=
  ⟨by rw [slotOut_ok hk]; exact good_filter ((good_iff l).1 hk) _, fun v => by simp, by simp⟩
theorem SlSt.step {l X : List Vp} {s : Int} {k : Nat} (hk : chainOkB l = true) (h : SlSt l s k X) (hlt : k < (slotIn l s).length) :
    chainPutB X (slotIn l s)[k] = true ∧ SlSt l s (k + 1) (putV X (slotIn l s)[k]) ∧ verSlotI (slotIn l s)[k].key = s := by
  have hg := (good_iff l).1 hk
  have hm : (slotIn l s)[k] ∈ slotIn l s := List.getElem_mem hlt
  have hm' := hm
  have hin0 := slotIn_ok hk s
  have hin : ∀ v, v ∈ slotIn l s ↔ v ∈ l ∧ inSlot s v = true := fun v => by rw [slotIn_ok hk]; exact List.mem_filter
  have hout : ∀ v, v ∈ slotOut l s ↔ v ∈ l ∧ (!inSlot s v) = true := fun v => by rw [slotOut_ok hk]; exact List.mem_filter
  obtain ⟨hml, hms⟩ := (hin _).1 hm
  have hsrt : Sorted (slotIn l s) := by rw [slotIn_ok hk]; exact hg.srt.filter _
  have hlen2 : (slotIn l s).length + (slotOut l s).length = l.length := by rw [slotIn_ok hk, slotOut_ok hk]; exact slots_two l s
  have hput : chainPutB X (slotIn l s)[k] = true := (putB_iff _ _).2 ⟨h.good, hg.ok _ hml, fun x hx e => by
    rcases (h.mem x).1 hx with hx | hx
    · obtain ⟨hxl, hxs⟩ := (hout x).1 hx
      have := sorted_one hg.srt hxl hml e
      rw [this, hms] at hxs; simp at hxs
    · obtain ⟨j, hj, rfl⟩ := List.getElem_of_mem hx
      rw [List.length_take] at hj
      rw [List.getElem_take] at e
      exact vLess_ne (List.pairwise_iff_getElem.1 hsrt j k (by omega) hlt (by omega)) e, by
    have := h.len; have := hg.len; omega⟩
  refine ⟨hput, ⟨good_put hput, fun v => ?_, by rw [putV_len, h.len]; omega⟩, by simpa [inSlot] using hms⟩
  rw [mem_putV, h.mem, List.take_succ_eq_append_getElem hlt]
  simp only [List.mem_append, List.mem_singleton]
  constructor
  · rintro (h | h | h) <;> simp [h]
  · rintro (h | h | h) <;> simp [h]
theorem SlSt.all {l X : List Vp} {s : Int} (hk : chainOkB l = true) (h : SlSt l s (slotIn l s).length X) : X = l := by
  have hg := (good_iff l).1 hk
  refine sorted_ext h.good.srt hg.srt fun v => ?_
  rw [h.mem, List.take_length, slotIn_ok hk, slotOut_ok hk, List.mem_filter, List.mem_filter]
  constructor
  · rintro (h | h) <;> exact h.1
  · intro hv
    cases hs : inSlot s v with
    | true => exact .inr ⟨hv, rfl⟩
    | false => exact .inl ⟨hv, by simp⟩
end Go.Proofs.Ytdheoaefmacamaa
