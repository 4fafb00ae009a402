/- What a client has seen after a call: the program's order and the reference's give the same. No program in sight. -/
import Derived.Test.YthciikogogkfcaaCallP
import Derived.Test.YthciikogogkfcaaDepsO
namespace Go.Proofs.Ythciikogogkfcaa
open Go.RowKit
set_option linter.unusedVariables false

def depI (a : Ap) : Dp := (a.v.key, a.v.time, a.v.site)
def depS (a : Ap) : Dp := (a.key, a.v.time, a.v.site)
def stepI (out : List Dp) (a : Ap) : List Dp := if a.yes then putF (joinF out a.v.deps) (depI a) else out
def stepC (out : List Dp) (a : Ap) : List Dp := joinR out a.v.deps
def stepP (out : List Dp) (a : Ap) : List Dp := if a.yes then putR out (depS a) else out
def firstK (x : Mc) : Int := x.keys.headD 0
def sawI (x : Mc) : List Dp := if x.fin = 0 then x.ctx else if x.kind = 1 then putF x.ctx (firstK x, x.time, x.site) else (ps x.got).foldl stepI x.ctx
def sawS (x : Mc) : List Dp := if x.fin = 0 then x.ctx else if x.kind = 1 then putR x.ctx (firstK x, x.time, x.site) else (ps x.got).foldl stepP (joinR x.ctx ((ps x.got).foldl stepC []))
def callSawI (x : Mc) : List Dp := if callOkB x (IntKind.i64.wrap (x.beg + x.fin)) then sawI x else []
def callSawS (x : Mc) : List Dp := if callOkB x (IntKind.i64.wrap (x.beg + x.fin)) then sawS x else []
structure GoodA (a : Ap) : Prop where
  dp : depsOkB a.v.deps = true
  dk : a.yes = true → dpOk (depI a) = true
  same : a.yes = true → depI a = depS a
  no : a.yes = false → a.v.deps = []
theorem good_of {a : Ap} (h : answerB a = true) : GoodA a := by
  unfold answerB at h
  cases hy : a.yes with
  | true =>
    rw [hy] at h
    simp only [if_true, Bool.and_eq_true, decide_eq_true_eq, verOkB, headOkB] at h
    refine ⟨h.1.2.1, fun _ => ?_, fun _ => ?_, fun h => by rw [hy] at h; cases h⟩
    · unfold dpOk depI; rw [h.1.1.1, h.1.1.2.1]; rfl
    · unfold depI depS; rw [h.2]
  | false =>
    rw [hy] at h
    simp only [Bool.false_eq_true, if_false, zeroB, Bool.and_eq_true, decide_eq_true_eq] at h
    have hn := List.length_eq_zero_iff.1 h.2.2.2.2.2.2
    exact ⟨by rw [hn]; rfl, (fun h => by rw [hy] at h; cases h), (fun h => by rw [hy] at h; cases h), fun _ => hn⟩
def oneO (k : Int) (d : Dp) : Option (Int × Int) := if d.1 = k then some d.2 else none
theorem pick_put {l : List Dp} {d : Dp} (h : depsOkB l = true) (k : Int) : pickS k (putF l d) = maxO (pickS k l) (oneO k d) := by
  rw [pickS_put h]
  unfold oneO
  split
  · rfl
  · rw [maxO_none]
theorem stepI_ok {out : List Dp} {a : Ap} (h : depsOkB out = true) (ha : GoodA a) : depsOkB (stepI out a) = true := by
  unfold stepI
  split
  · rename_i hy
    exact putF_ok (joinF_ok h (okFrom_ok ha.dp)) (ha.dk hy)
  · exact h
theorem stepC_ok {out : List Dp} {a : Ap} (h : depsOkB out = true) (ha : GoodA a) : depsOkB (stepC out a) = true := joinR_okB h ha.dp
theorem stepP_ok {out : List Dp} {a : Ap} (h : depsOkB out = true) (ha : GoodA a) : depsOkB (stepP out a) = true := by
  unfold stepP
  split
  · rename_i hy
    exact putR_okB h (by rw [← ha.same hy]; exact ha.dk hy)
  · exact h
def conD (k : Int) (a : Ap) : Option (Int × Int) := pickS k a.v.deps
def conP (k : Int) (a : Ap) : Option (Int × Int) := if a.yes then oneO k (depI a) else none
theorem pick_stepI {out : List Dp} {a : Ap} (h : depsOkB out = true) (ha : GoodA a) (k : Int) : pickS k (stepI out a) = maxO (pickS k out) (maxO (conD k a) (conP k a)) := by
  unfold stepI conD conP
  cases hy : a.yes with
  | true =>
    simp only [if_true]
    rw [pick_put (joinF_ok h (okFrom_ok ha.dp)) k, pickS_join h ha.dp k, maxO_assoc]
  | false =>
    simp only [Bool.false_eq_true, if_false]
    rw [ha.no hy, show pickS k [] = none from rfl, maxO_none, maxO_none]
theorem pick_stepC {out : List Dp} {a : Ap} (h : depsOkB out = true) (ha : GoodA a) (k : Int) : pickS k (stepC out a) = maxO (pickS k out) (conD k a) := pickS_joinR h ha.dp k
theorem pick_stepP {out : List Dp} {a : Ap} (h : depsOkB out = true) (ha : GoodA a) (k : Int) : pickS k (stepP out a) = maxO (pickS k out) (conP k a) := by
  unfold stepP conP
  cases hy : a.yes with
  | true =>
    simp only [if_true]
    have hd : dpOk (depS a) = true := by rw [← ha.same hy]; exact ha.dk hy
    rw [putR_ok h hd, pick_put h k, ha.same hy]
  | false => simp only [Bool.false_eq_true, if_false]; rw [maxO_none]
def allO (f : Ap → Option (Int × Int)) : List Ap → Option (Int × Int)
  | [] => none
  | a :: l => maxO (f a) (allO f l)
theorem fold_pick (step : List Dp → Ap → List Dp) (f : Ap → Option (Int × Int)) (k : Int) (hok : ∀ out a, depsOkB out = true → GoodA a → depsOkB (step out a) = true) (hp : ∀ out a, depsOkB out = true → GoodA a → pickS k (step out a) = maxO (pickS k out) (f a))
    (l : List Ap) (hl : ∀ a ∈ l, GoodA a) (out : List Dp) (ho : depsOkB out = true) : depsOkB (l.foldl step out) = true ∧ pickS k (l.foldl step out) = maxO (pickS k out) (allO f l) := by
  induction l generalizing out with
  | nil => exact ⟨ho, (maxO_none _).symm⟩
  | cons a l ih =>
    have h1 := ih (fun x hx => hl x (by simp [hx])) (step out a) (hok out a ho (hl a (by simp)))
    refine ⟨h1.1, ?_⟩
    rw [List.foldl_cons, h1.2, hp out a ho (hl a (by simp)), allO, maxO_assoc]
theorem allO_two (f g : Ap → Option (Int × Int)) (l : List Ap) : allO (fun a => maxO (f a) (g a)) l = maxO (allO f l) (allO g l) := by
  induction l with
  | nil => rfl
  | cons a l ih =>
    simp only [allO, ih]
    rw [maxO_assoc, maxO_assoc]
    congr 1
    rw [← maxO_assoc, maxO_comm (g a) (allO f l), maxO_assoc]
theorem foldI_ok {l : List Ap} (hl : ∀ a ∈ l, GoodA a) {out : List Dp} (ho : depsOkB out = true) : depsOkB (l.foldl stepI out) = true := (fold_pick stepI (fun a => maxO (conD 0 a) (conP 0 a)) 0 (fun _ _ => stepI_ok) (fun _ _ h h' => pick_stepI h h' 0) l hl out ho).1
theorem foldC_ok {l : List Ap} (hl : ∀ a ∈ l, GoodA a) {out : List Dp} (ho : depsOkB out = true) : depsOkB (l.foldl stepC out) = true := (fold_pick stepC (conD 0) 0 (fun _ _ => stepC_ok) (fun _ _ h h' => pick_stepC h h' 0) l hl out ho).1
theorem foldP_ok {l : List Ap} (hl : ∀ a ∈ l, GoodA a) {out : List Dp} (ho : depsOkB out = true) : depsOkB (l.foldl stepP out) = true := (fold_pick stepP (conP 0) 0 (fun _ _ => stepP_ok) (fun _ _ h h' => pick_stepP h h' 0) l hl out ho).1
theorem fold_same {l : List Ap} (hl : ∀ a ∈ l, GoodA a) {ctx : List Dp} (hc : depsOkB ctx = true) : l.foldl stepP (joinR ctx (l.foldl stepC [])) = l.foldl stepI ctx := by
  have hC := foldC_ok hl ok_nil
  have hJ := joinR_okB hc hC
  refine depsOk_ext (foldP_ok hl hJ) (foldI_ok hl hc) fun k => ?_
  rw [(fold_pick stepP (conP k) k (fun _ _ => stepP_ok) (fun _ _ h h' => pick_stepP h h' k) l hl _ hJ).2,
    (fold_pick stepI (fun a => maxO (conD k a) (conP k a)) k (fun _ _ => stepI_ok) (fun _ _ h h' => pick_stepI h h' k) l hl ctx hc).2,
    pickS_joinR hc hC, (fold_pick stepC (conD k) k (fun _ _ => stepC_ok) (fun _ _ h h' => pick_stepC h h' k) l hl [] ok_nil).2, allO_two]
  rw [show pickS k [] = none from rfl, none_maxO, maxO_assoc]
/-- What a valid call's parts are. -/
structure GoodC (x : Mc) : Prop where
  cx : depsOkB x.ctx = true
  gt : ∀ a ∈ ps x.got, GoodA a
  put : x.fin ≠ 0 → x.kind = 1 → dpOk (firstK x, x.time, x.site) = true ∧ 0 < x.keys.length
theorem goodC_of {x : Mc} {t : Int} (h : callOkB x t = true) : GoodC x := by
  simp only [callOkB, Bool.and_eq_true] at h
  obtain ⟨h1, h2, h3, h5, h6, h7, h8, h9, h10, h11, h12⟩ := h
  simp only [gotOkB, Bool.and_eq_true] at h10
  have hall := anFrom_all h10.1
  simp only [keysB, Bool.and_eq_true, Bool.or_eq_true, decide_eq_true_eq, inB_iff] at h3
  refine ⟨h6, fun a ha => ?_, fun hf hk => ?_⟩
  · have := hall a ha; simp only [qI, Bool.and_eq_true] at this; exact good_of this.2
  · have hlen : 0 < x.keys.length := by omega
    refine ⟨?_, hlen⟩
    unfold finB at h12
    rw [if_neg hf] at h12
    simp only [Bool.and_eq_true] at h12
    have h13 := h12.2.2.2
    rw [if_pos hk] at h13
    have hs : stampOkB x.time x.site = true := fits_ok h9 (by unfold noStamp at h13; simpa only [Bool.not_eq_true'] using h13)
    have hkey : inB (firstK x) 0 5 = true := by
      refine (kFrom_mem h3.1 _ ?_).2
      unfold firstK
      cases hx : x.keys with
      | nil => rw [hx] at hlen; simp at hlen
      | cons k l => simp
    unfold dpOk
    rw [hkey, hs]; rfl
theorem saw_same {x : Mc} (h : GoodC x) : sawS x = sawI x := by
  unfold sawS sawI
  split
  · rfl
  · rename_i hf
    split
    · rename_i hk
      exact putR_ok h.cx (h.put hf hk).1
    · exact fold_same h.gt h.cx
theorem sawI_ok {x : Mc} (h : GoodC x) : depsOkB (sawI x) = true := by
  unfold sawI
  split
  · exact h.cx
  · rename_i hf
    split
    · rename_i hk
      exact putF_ok h.cx (h.put hf hk).1
    · exact foldI_ok h.gt h.cx
theorem callSaw_same (x : Mc) : callSawS x = callSawI x := by
  unfold callSawS callSawI
  split
  · rename_i h; exact saw_same (goodC_of h)
  · rfl
theorem callSaw_len (x : Mc) : (callSawI x).length ≤ 6 := by
  unfold callSawI
  split
  · rename_i h; exact depsOk_len (sawI_ok (goodC_of h))
  · simp
theorem foldI_take (l : List An) (out : List Dp) (k : Nat) (h : k < l.length) : ((ps l).take (k + 1)).foldl stepI out = stepI (((ps l).take k).foldl stepI out) l[k].p := by
  rw [List.take_succ_eq_append_getElem (by rw [ps_len]; exact h), List.foldl_append, ps_get l k h]; rfl
theorem foldC_take (l : List An) (out : List Dp) (k : Nat) (h : k < l.length) : ((ps l).take (k + 1)).foldl stepC out = stepC (((ps l).take k).foldl stepC out) l[k].p := by
  rw [List.take_succ_eq_append_getElem (by rw [ps_len]; exact h), List.foldl_append, ps_get l k h]; rfl
theorem foldP_take (l : List An) (out : List Dp) (k : Nat) (h : k < l.length) : ((ps l).take (k + 1)).foldl stepP out = stepP (((ps l).take k).foldl stepP out) l[k].p := by
  rw [List.take_succ_eq_append_getElem (by rw [ps_len]; exact h), List.foldl_append, ps_get l k h]; rfl
theorem good_take {l : List Ap} (h : ∀ a ∈ l, GoodA a) (k : Nat) : ∀ a ∈ l.take k, GoodA a := fun a ha => h a (List.mem_of_mem_take ha)
end Go.Proofs.Ythciikogogkfcaa
