/- Plain laws of joins: what is joined is behind neither; joined again it is the same. -/
import Derived.Test.YthciikogogkfcaaDepsN
namespace Go.Proofs.Ythciikogogkfcaa

theorem atR_self {l : List Dp} (h : depsOkB l = true) (k : Nat) (hk : k < l.length) : atR l l[k].1 = l[k].2 := by
  have hR : ∀ key, atR l key = atF l key := fun key => by simp [atR, h]
  rw [hR]
  refine atF_take hk (fun e he => ?_) rfl
  rw [← List.take_append_drop k l] at h
  have h1 := okFrom_lastK h l[k] (by rw [List.drop_eq_getElem_cons hk]; exact List.mem_cons_self ..)
  have h2 := okFrom_mem_le (okFrom_app _ _ _ h) e he
  omega
theorem maxS_notless (p q : Int × Int) : stampLessB (maxS p q).1 (maxS p q).2 p.1 p.2 = false := by
  unfold maxS
  cases h : stampLessB p.1 p.2 q.1 q.2 with
  | true => exact less_asymm h
  | false => simp [stampLessB]
theorem join_notless {a b : List Dp} (ha : depsOkB a = true) (hb : depsOkB b = true) (k : Nat) (hk : k < a.length) : stampLessB (atR (joinR a b) a[k].1).1 (atR (joinR a b) a[k].1).2 a[k].2.1 a[k].2.2 = false := by
  have := maxS_notless (atR a a[k].1) (atR b a[k].1)
  rw [← atR_joinR ha hb] at this
  rwa [atR_self ha k hk] at this
theorem maxO_self (x : Option (Int × Int)) : maxO x x = x := by cases x <;> simp [maxO, maxS_self]
theorem joinR_again1 {a b : List Dp} (ha : depsOkB a = true) (hb : depsOkB b = true) : joinR (joinR a b) a = joinR a b :=
  depsOk_ext (joinR_okB (joinR_okB ha hb) ha) (joinR_okB ha hb) (fun key => by
    rw [pickS_joinR (joinR_okB ha hb) ha, pickS_joinR ha hb, maxO_comm (pickS key a), maxO_assoc, maxO_self])
theorem joinR_again2 {a b : List Dp} (ha : depsOkB a = true) (hb : depsOkB b = true) : joinR (joinR a b) b = joinR a b :=
  depsOk_ext (joinR_okB (joinR_okB ha hb) hb) (joinR_okB ha hb) (fun key => by
    rw [pickS_joinR (joinR_okB ha hb) hb, pickS_joinR ha hb, maxO_assoc, maxO_self])
theorem putF_le6 {l : List Dp} (h : depsOkB l = true) : l.length ≤ 6 := depsOk_len h
theorem joinR_len (a b : List Dp) : (joinR a b).length ≤ 6 := by
  unfold joinR
  split
  · rename_i h
    simp only [Bool.and_eq_true] at h
    exact depsOk_len (joinF_ok h.1 (okFrom_ok h.2))
  · simp
end Go.Proofs.Ythciikogogkfcaa
