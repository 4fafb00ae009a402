/- The draw of a word: its first statement, by an invariant over what has come up. -/
import Derived.Test.YthciikogogkfcaaRegInv
import Derived.Test.YthciikogogkfcaaDrawC
import Derived.Test.YthciikogogkfcaaWordX
import Derived.Deep.CutRange
namespace Go.Proofs.Ythciikogogkfcaa
open Go.RowKit Go.Deep
set_option linter.unusedVariables false

/-! What each operation of the statement yields. -/
def IntIn (hi : Int) (v : Value) : Prop := ∃ x : Int, v = .int .i64 x ∧ 0 ≤ x ∧ x ≤ hi
def SlIn (N0 : Nat) (v : Value) (w : World) : Prop := ∃ B, v = .slice (some ⟨B, 0, none⟩) 6 6 ∧ N0 ≤ B ∧ Blk w B #[.int .i64 0, .int .i64 1, .int .i64 2, .int .i64 3, .int .i64 10, .int .i64 11] 3
def PtIn (N0 : Nat) (v : Value) (w : World) : Prop := ∃ B j, v = .pointer (some ⟨B, j, none⟩) ∧ N0 ≤ B ∧ j < 6 ∧ Blk w B #[.int .i64 0, .int .i64 1, .int .i64 2, .int .i64 3, .int .i64 10, .int .i64 11] 3
def AlIn (N0 : Nat) (v : Value) (w : World) : Prop := ∃ B, v = .pointer (some ⟨B, 0, none⟩) ∧ N0 ≤ B ∧ Blk w B #[.int .i64 0, .int .i64 0, .int .i64 0, .int .i64 0, .int .i64 0, .int .i64 0, .int .i64 0, .int .i64 0, .bool false, .slice none 0 0, .int .i64 0, .int .i64 0, .slice none 0 0, .slice none 0 0, .slice none 0 0] 48
def WdIn (v : Value) : Prop := ∃ (kind frm too call key val : Int) (yes : Bool) (slot epoch : Int), v = .agg #[.int .i64 kind, .int .i64 frm, .int .i64 too, .int .i64 call, .int .i64 key, .int .i64 0, .int .i64 0, .int .i64 val, .bool yes, .slice none 0 0, .int .i64 slot, .int .i64 epoch, .slice none 0 0, .slice none 0 0, .slice none 0 0] ∧ 0 ≤ frm ∧ frm ≤ 100 ∧ 0 ≤ too ∧ too ≤ 100
def kd (i : Nat) : Nat := [0, 1, 8, 2, 0, 5, 3, 1, 2, 0, 5, 3, 1, 0, 1, 0, 1, 0, 1, 0, 1, 4, 0, 1, 0, 1, 6, 7].getD i 0
def Gd (g N0 : Nat) (i : Nat) (v : Value) (w : World) : Prop :=
  match kd i with
  | 0 => v = .pointer (some ⟨g, 0, none⟩)
  | 1 => IntIn 89 v
  | 8 => IntIn 90 v
  | 2 => SlIn N0 v w
  | 3 => PtIn N0 v w
  | 4 => ∃ b, v = .bool b
  | 5 => IntIn 5 v
  | 6 => WdIn v
  | _ => AlIn N0 v w
theorem Gd.mono {g N0 i : Nat} {v : Value} {w w' : World} (h : Gd g N0 i v w) (hg : w.grownBy w' (some g)) (hgN : g < N0) : Gd g N0 i v w' := by
  unfold Gd at *
  split at h
  · exact h
  · exact h
  · exact h
  · obtain ⟨B, h1, h2, h3⟩ := h; exact ⟨B, h1, h2, h3.grown hg (by omega)⟩
  · obtain ⟨B, j, h1, h2, h3, h4⟩ := h; exact ⟨B, j, h1, h2, h3, h4.grown hg (by omega)⟩
  · exact h
  · exact h
  · exact h
  · obtain ⟨B, h1, h2, h3⟩ := h; exact ⟨B, h1, h2, h3.grown hg (by omega)⟩
def dt (i : Nat) : Nat := if i = 27 then 3 else i + 4
theorem dt_ne {i j : Nat} (hi : i < 28) (hj : j < 28) (h : i ≠ j) : dt i ≠ dt j := by unfold dt; split <;> split <;> omega
theorem dt_le {i : Nat} (hi : i < 28) : 3 ≤ dt i ∧ dt i ≤ 30 := by unfold dt; split <;> omega
/-- The frame but for the statement's own slots. -/
def Fr (L : List Value) (ds : List Deferred) (a : Act) : Prop := a.tmps.size = L.length ∧ a.defers = ds ∧ ∀ d, d < 3 ∨ 30 < d → a.tmps[d]? = L[d]?
theorem Fr.put {L : List Value} {ds : List Deferred} {a : Act} (h : Fr L ds a) {d : Nat} (hd : 3 ≤ d ∧ d ≤ 30) (v : Value) : Fr L ds (a.put (some d) v) := by
  obtain ⟨h1, h2, h3⟩ := h
  refine ⟨by simpa [Act.put] using h1, h2, fun e he => ?_⟩
  rw [← h3 e he]
  show (a.tmps.setIfInBounds d v)[e]? = _
  rw [Array.getElem?_setIfInBounds_ne (by omega)]
theorem Fr.is {L : List Value} {ds : List Deferred} {a : Act} (h : Fr L ds a) (hL : 31 ≤ L.length) : a = ⟨(L.take 3 ++ ((List.range' 3 28).map (fun j => a.tmps.getD j undef)) ++ L.drop 31).toArray, ds⟩ := by
  obtain ⟨h1, h2, h3⟩ := h
  obtain ⟨t, d⟩ := a
  simp only at h1 h2 h3
  subst h2
  congr 1
  apply Array.ext_getElem?
  intro i
  refine Eq.trans ?_ (List.getElem?_toArray (xs := _)).symm
  by_cases hi : i < 3
  · rw [h3 i (.inl hi), List.getElem?_append_left (by simp; omega), List.getElem?_append_left (by simp; omega), List.getElem?_take]
    simp [hi]
  · by_cases hi2 : i < 31
    · rw [List.getElem?_append_left (by simp; omega), List.getElem?_append_right (by simp; omega)]
      have hl : (L.take 3).length = 3 := by simp; omega
      rw [hl, List.getElem?_map, List.getElem?_range' (by omega)]
      have hs : i < t.size := by omega
      simp only [Option.map_some, Nat.one_mul]
      rw [show 3 + (i - 3) = i by omega, Array.getElem?_eq_getElem hs]
      simp [hs]
    · rw [h3 i (.inr (by omega)), List.getElem?_append_right (by simp; omega), List.getElem?_drop]
      congr 1
      simp; omega
/-- The invariant: n operations are left. -/
def InvW (g N N0 q : Nat) (W0 : World) (L : List Value) (ds : List Deferred) (n : Nat) (listed : Array Bool) (a : Act) (w : World) : Prop :=
  Fr L ds a ∧ (∃ q', Rd N w g q' ∧ q' + n ≤ q + 29) ∧ W0.grownBy w (some g) ∧ ∀ i, i < 28 → listed.getD i false = true → Gd g N0 i (a.tmps.getD (dt i) undef) w
theorem InvW.keep {g N N0 q n i : Nat} {W0 w w' : World} {L : List Value} {ds : List Deferred} {listed : Array Bool} {a : Act} (h : InvW g N N0 q W0 L ds (n + 1) listed a w) (hi : i < 28) (hil : i < listed.size) (hL : 31 ≤ L.length) (hgN : g < N0) {v : Value}
    (hg : w.grownBy w' (some g)) (hr : ∃ q', Rd N w' g q' ∧ q' + n ≤ q + 29) (hv : Gd g N0 i v w') : InvW g N N0 q W0 L ds n (listed.setIfInBounds i true) (a.put (some (dt i)) v) w' := by
  obtain ⟨h1, h2, h3, h4⟩ := h
  refine ⟨h1.put (dt_le hi) v, hr, grown_trans' h3 hg, fun j hj hl => ?_⟩
  by_cases hij : j = i
  · subst hij
    have : dt j < a.tmps.size := by have := h1.1; have := (dt_le hj).2; omega
    have e : (a.put (some (dt j)) v).tmps.getD (dt j) undef = v := by
      show (a.tmps.setIfInBounds (dt j) v).getD (dt j) undef = v
      simp [this]
    rw [e]; exact hv
  · have hl' : listed.getD j false = true := by rwa [getD_set_ne false (fun e => hij e.symm)] at hl
    have e : (a.put (some (dt i)) v).tmps.getD (dt j) undef = a.tmps.getD (dt j) undef := by
      show (a.tmps.setIfInBounds (dt i) v).getD (dt j) undef = _
      simp [Array.getElem?_setIfInBounds_ne (dt_ne hi hj (fun e => hij e.symm))]
    rw [e]
    exact (h4 j hj hl').mono hg hgN
theorem InvW.rd {g N N0 q n : Nat} {W0 w : World} {L : List Value} {ds : List Deferred} {listed : Array Bool} {a : Act} (h : InvW g N N0 q W0 L ds (n + 1) listed a w) : ∃ q', Rd N w g q' ∧ q' + n ≤ q + 29 := by
  obtain ⟨_, ⟨q', h1, h2⟩, _, _⟩ := h
  exact ⟨q', h1, by omega⟩
theorem InvW.sl0 {g N N0 q n : Nat} {W0 w : World} {L : List Value} {ds : List Deferred} {listed : Array Bool} {a : Act} (h : InvW g N N0 q W0 L ds n listed a w) {v : Value} (hv : L[0]? = some v) : a.tmps.getD 0 undef = v := by
  have h1 := h.1.2.2 0 (.inl (by omega))
  rw [hv] at h1
  simp [h1]
section
variable {P : Program} {ops : Array Oper} {Q : Exit → Act → World → Prop}
theorem wpOp_plain {i : Nat} {o : Oper} {K : Act → World → Prop} {a : Act} {w : World} (ho : ops[i]? = some o) (hg : o.guard = none) (h : o.wp P a w K Q) : wpOp P ops Q i K a w := by
  unfold wpOp
  rw [ho]
  simp only
  rw [if_pos (by simp [Region.wanted, hg])]
  exact Or.inl h
end

section
variable {P : Program} {ops : Array Oper} {Q : Exit → Act → World → Prop}
theorem op_enter {o : Oper} {a : Act} {w : World} {K : Act → World → Prop} {g : FuncId} {args : Array Value} {d : Nat} (hrun : (execOp a.eval o).run P w = .ok (.enter g args) w) (hd : o.dst = some d)
    (h : Calls P g args w (fun e w'' => ∃ v, e = .returned v ∧ K (a.put (some d) v) w'')) : o.wp P a w K Q := by
  unfold Oper.wp
  rw [hrun, Oper.upon_enter]
  refine h.mono ?_
  rintro e w'' ⟨v, rfl, hk⟩
  show K (a.put o.dst v) w''
  rw [hd]; exact hk
theorem op_value {o : Oper} {a : Act} {w w' : World} {K : Act → World → Prop} {v : Value} {d : Nat} (hrun : (execOp a.eval o).run P w = .ok (.value v) w') (hd : o.dst = some d) (h : K (a.put (some d) v) w') : o.wp P a w K Q := by
  unfold Oper.wp
  rw [hrun, Oper.upon_value, hd]; exact h
theorem op_skip {o : Oper} {a : Act} {w w' : World} {K : Act → World → Prop} (hrun : (execOp a.eval o).run P w = .ok .skip w') (hd : o.dst = none) (h : K a w') : o.wp P a w K Q := by
  unfold Oper.wp
  rw [hrun, Oper.upon_skip, hd]; exact h
theorem wp_region_W {id : Nat} {L : List Value} {ds : List Deferred} {w : World} {g N N0 q : Nat} (hm : P.follows .mixedOrders = true) (hsz : ops.size = 29) (hback : backB .any ops = true) (hsink : Region.sinkB .any ops 28 = true) (hL : 31 ≤ L.length) (hr : Rd N w g q) (hgN : g < N0)
    (step : ∀ i, i < 28 → ∀ k a w', (∀ j, j < 28 → Region.waitsFor .any ops i j = true → Gd g N0 j (a.tmps.getD (dt j) undef) w') → (∀ v, L[0]? = some v → a.tmps.getD 0 undef = v) → (∃ q', Rd N w' g q' ∧ q' + (k + 1) ≤ q + 29) → w.grownBy w' (some g) →
      ∀ K : Act → World → Prop, (∀ v w'', w'.grownBy w'' (some g) → (∃ q', Rd N w'' g q' ∧ q' + k ≤ q + 29) → Gd g N0 i v w'' → K (a.put (some (dt i)) v) w'') → wpOp P ops Q i K a w')
    (last : ∀ a w', Fr L ds a → (∃ q', Rd N w' g q' ∧ q' ≤ q + 29) → w.grownBy w' (some g) → (∀ j, j < 28 → Gd g N0 j (a.tmps.getD (dt j) undef) w') → wpOp P ops Q 28 (fun a' w'' => Q .normal a' w'') a w') :
    (Code.region id ops true).wp P Q ⟨L.toArray, ds⟩ w := by
  refine wp_region_last (n := 28) hm hsz hback hsink (InvW g N N0 q w L ds) ?_ ?_ ?_
  · refine ⟨⟨by simp, rfl, fun d _ => by simp⟩, ⟨q, hr.below ((Below.refl _ _).drew), by omega⟩, grown_of_below ((Below.refl _ _).drew) _, fun i hi hl => ?_⟩
    rw [hsz] at hl
    have : i < 29 := by omega
    simp [this] at hl
  · intro k listed a w' i o hi hs ho hu hd hI
    have hil : i < listed.size := by omega
    refine step i hi k a w' (fun j hj hw => ?_) (fun v hv => hI.sl0 hv) hI.2.1 hI.2.2.1 _ (fun v w'' h1 h2 h3 => hI.keep hi hil hL hgN h1 h2 h3)
    obtain ⟨oi, hoi, e, he, hb, heq⟩ := Region.waitsFor_spec hw
    rw [ho] at hoi
    obtain rfl : o = oi := Option.some.inj hoi
    exact hI.2.2.2 j hj (by rw [← heq]; exact hd e he hb)
  · intro k listed a w' hall hI
    obtain ⟨h1, ⟨q', h2, h3⟩, h4, h5⟩ := hI
    exact last a w' h1 ⟨q', h2, by omega⟩ h4 (fun j hj => h5 j hj (hall j hj))
end

end Go.Proofs.Ythciikogogkfcaa
