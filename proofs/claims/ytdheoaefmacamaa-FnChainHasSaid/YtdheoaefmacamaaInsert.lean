/- slices.Insert at versions: one more, at its place. -/
import Derived.Test.YtdheoaefmacamaaInsP
import Derived.Shelf.RegionOpenPlain
import Derived.Lib.Walk
import Derived.Lib.SliceRun
namespace Go.Proofs.Ytdheoaefmacamaa
open Go.RowKit Go.Deep
set_option linter.unusedVariables false

theorem infoVerI : (Try.prog.info? 35).map (fun i => (i.zero, i.size, i.bytes)) = some (some (.agg #[.int .i64 0, .int .i64 0, .int .i64 0, .int .i64 0, .int .i64 0, .int .i64 0, .slice none 0 0]), 7, 72) := by kernel_rfl
theorem sizeVerI : (Try.prog.info? 35).map (·.size) = some 7 := by kernel_rfl
/-- What an insertion gives. -/
def Inserted (N : Nat) (A : List Mv) (m : Mv) (i : Nat) (v : Value) (w : World) (e : Ending) (w' : World) : Prop := ∃ (g c : Nat), e = .returned (.slice (some ⟨g, 0, none⟩) (A.length + 1) c) ∧
  w'.ownsRow N 35 7 (.slice (some ⟨g, 0, none⟩) (A.length + 1) c) (A.length + 1) (mvsC (A.take i) ++ mvC m ++ mvsC (A.drop i)) ∧ w.grownBy w' v.ownBlock
theorem mvsC_take (A : List Mv) (i : Nat) : (mvsC A).take (i * 7) = mvsC (A.take i) := by
  induction A generalizing i with
  | nil => simp [mvsC]
  | cons a A ih =>
    cases i with
    | zero => simp [mvsC]
    | succ i =>
      have := ih i
      rw [show (i + 1) * 7 = i * 7 + 7 by omega]
      simp only [mvsC, List.flatMap_cons, List.take_succ_cons] at this ⊢
      rw [List.take_append, show (mvC a).length = 7 from rfl, ← this]
      simp only [Nat.add_sub_cancel]
      rw [List.take_of_length_le (by show 7 ≤ i * 7 + 7; omega)]
theorem mvsC_drop (A : List Mv) (i : Nat) (h : i ≤ A.length) : (mvsC A).drop (i * 7) = mvsC (A.drop i) := by
  have h1 := List.take_append_drop (i * 7) (mvsC A)
  rw [mvsC_take] at h1
  have h2 : mvsC (A.take i) ++ mvsC (A.drop i) = mvsC A := by rw [← mvsC_app, List.take_append_drop]
  exact List.append_cancel_left (h1.trans h2.symm)

set_option maxRecDepth 100000 in
set_option maxHeartbeats 4000000 in
theorem insert_end (A : List Mv) (m : Mv) (N B c : Nat) (pa : Option Addr) (w : World) (own : w.ownsRow N 35 7 (.slice pa A.length c) A.length (mvsC A)) (hB : Blk w B (mvC m).toArray 35) (hl : A.length ≤ 1000) (hN : N ≤ w.heap.size) :
    Calls Try.prog 57 #[.slice pa A.length c, .int .i64 (A.length : Int), .slice (some ⟨B, 0, none⟩) 1 1] w (Inserted N A m A.length (.slice pa A.length c) w) := by
  obtain ⟨i0, hi, hz0, hz1, hz2⟩ := info_parts infoVerI
  have hc63 : c ≤ maxLen ∧ A.length ≤ c := by
    rcases own.2 with ⟨hv, h0⟩ | ⟨g, cap, cur, hv, hg, hh, hnc, hm, hs, ht⟩
    · simp only [Value.slice.injEq] at hv; obtain ⟨rfl, h1, rfl⟩ := hv; unfold maxLen; omega
    · simp only [Value.slice.injEq] at hv; obtain ⟨rfl, h1, rfl⟩ := hv; exact ⟨hm, hnc⟩
  obtain ⟨hcm, hnc⟩ := hc63
  unfold maxLen at hcm
  have hci : (A.length : Int) ≤ (c : Int) := by omega
  have hcells : ∀ j u, (mvC m)[j]? = some u → w.cell? ((⟨B, 0, none⟩ : Addr).add j) = some u := fun j u hj => by rw [add_zero_cells]; exact hB.cell j (by simpa using hj)
  rcases pa with _ | ⟨pb, po, px⟩
  all_goals (
    go_enter Try.func57, Try.ntmps57
    go_wp2_with (at_builtin; refine wpList_append_lies _ rfl (.tmp 23) (.tmp 24) 23 rfl N 35 i0 _ 7 72 Try.underlying23 hi hz0 hz1 hz2 rfl (by decide) _ _ _ rfl own _ 1 1 (mvC m) rfl rfl hcells (mvC_one m) (by omega) (by unfold maxLen; omega) (by omega) hN _ rfl ?_)
    all_goals (
      intro g5 c5 w5 own5 hg5 hor5 hlt5
      go_wp2
      go_ret
      exact ⟨g5, c5, rfl, by rw [List.take_length, List.drop_length]; simpa [mvsC] using own5, hg5⟩))

set_option maxRecDepth 100000 in
set_option maxHeartbeats 8000000 in
theorem insert_shift (A : List Mv) (m : Mv) (N B g c i : Nat) (cur : Array Value) (w : World) (hh : w.heap[g]? = some (.cells cur 35 (0, 0))) (hs : cur.size = c * 7) (ht : cur.toList.take (A.length * 7) = mvsC A) (hi : i < A.length) (hroom : A.length + 1 ≤ c) (hc : c ≤ maxLen) (hNg : N ≤ g)
    (hB : Blk w B (mvC m).toArray 35) (hne : B ≠ g) :
    Calls Try.prog 57 #[.slice (some ⟨g, 0, none⟩) A.length c, .int .i64 (i : Int), .slice (some ⟨B, 0, none⟩) 1 1] w (Inserted N A m i (.slice (some ⟨g, 0, none⟩) A.length c) w) := by
  have hxl := mvsC_len A
  have hsz := sizeVerI
  have hdl : ((mvsC A).drop (i * 7)).length = (A.length - i) * 7 := by rw [List.length_drop, hxl, Nat.sub_mul]
  have hml : (mvC m).length = 7 := rfl
  have hcells : ∀ j u, (mvC m)[j]? = some u → w.cell? ((⟨B, 0, none⟩ : Addr).add j) = some u := fun j u hj => by rw [add_zero_cells]; exact hB.cell j (by simpa using hj)
  have honeD : ∀ v ∈ (mvsC A).drop (i * 7), v.oneCell' = true := fun v hv => mvsC_one A v (List.mem_of_mem_drop hv)
  have hcm := hc
  unfold maxLen at hc
  have hov : ∀ W : World, W.heap = w.heap → ∀ lb cb, (callFunc 67 #[.slice (some ⟨B, 0, none⟩) 1 1, .slice (some ⟨g, (i + 1) * 7, none⟩) lb cb]).run Try.prog W = .ok (.value (.bool false)) W := fun W hW lb cb => by
    have hBW : W.heap[B]? = some (.cells (mvC m).toArray 35 (0, 0)) := by rw [hW]; exact hB
    have hgW : W.heap[g]? = some (.cells cur 35 (0, 0)) := by rw [hW]; exact hh
    rw [run_callFunc_extern Try.func67 (by kernel_rfl) (by kernel_rfl) (by kernel_rfl) (e := Extern.SlicesOverlaps.overlaps #[23, 23] #[4]) (by kernel_rfl),
      Lib.run_overlaps_apart W 23 4 35 Try.underlying23 7 (fun W => by kernel_rfl) ⟨B, 0, none⟩ ⟨g, (i + 1) * 7, none⟩ 1 1 lb cb hne 35 35 7 (c * 7) (by unfold World.shape?; rw [hBW]; rfl) (by unfold World.shape?; rw [hgW]; simp [hs]) (by omega)
        (by simp [World.frozen?, hBW]) (by simp [World.frozen?, hBW])]
    rfl
  obtain ⟨r1, hr1⟩ : ∃ r1, r1 = cur.toList.take (i * 7 + 7) ++ (mvsC A).drop (i * 7) ++ cur.toList.drop (i * 7 + 7 + ((mvsC A).drop (i * 7)).length) := ⟨_, rfl⟩
  obtain ⟨r2, hr2⟩ : ∃ r2, r2 = r1.take (i * 7) ++ mvC m ++ r1.drop (i * 7 + 7) := ⟨_, rfl⟩
  have hcl : cur.toList.length = c * 7 := by simpa using hs
  obtain ⟨e1, e2, e3⟩ := shift_row cur.toList (mvsC A) (mvC m) (i * 7) 7 (A.length * 7) ht (by omega) hml (by omega) r1 r2 hr1 hr2
  have hsrc1 : ∀ j v, ((mvsC A).drop (i * 7))[j]? = some v → w.cell? ((⟨g, i * 7, none⟩ : Addr).add j) = some v := fun j v hj => by
    rw [List.getElem?_drop] at hj
    have ha : (⟨g, i * 7, none⟩ : Addr).add j = ⟨g, i * 7 + j, none⟩ := by
      unfold Addr.add; split
      · rename_i h; subst h; rfl
      · rfl
    rw [ha]
    rw [← ht, List.getElem?_take] at hj
    have hj' : cur.toList[i * 7 + j]? = some v := by split at hj <;> simp_all
    exact Blk.cell (T := 35) (show Blk w g cur 35 from hh) _ (by simpa using hj')
  have hcp1 : ∀ (W : World), W.heap = w.heap → ∀ ty dc sc, ∃ v, (Builtin.copy_ #[23, 23] ty #[.slice (some ⟨g, (i + 1) * 7, none⟩) (A.length + 1 - (i + 1)) dc, .slice (some ⟨g, i * 7, none⟩) (A.length + 1 - i) sc]).run Try.prog W = .ok v (W.setRow g r1.toArray) := fun W hW ty dc sc => by
    rw [hr1, ← show (i + 1) * 7 = i * 7 + 7 by omega]
    refine ⟨_, run_copy_rowN W 23 23 ty 35 g ((i + 1) * 7) _ dc ⟨g, i * 7, none⟩ _ sc 7 cur 35 ((mvsC A).drop (i * 7)) Try.underlying23 hsz (by rw [hW]; exact hh) (by rw [hdl]; congr 1; simp only [Nat.min_def]; split <;> omega)
      (fun j v hj => by rw [World.cell?_of_block (w := w) (w' := W) (by rw [hW])]; exact hsrc1 j v hj) (by rw [hdl, hs]; omega) honeD⟩
  have hcp2 : ∀ (W : World), W.heap = (w.setRow g r1.toArray).heap → ∀ ty dc sc, ∃ v, (Builtin.copy_ #[23, 23] ty #[.slice (some ⟨g, i * 7, none⟩) (A.length + 1 - i) dc, .slice (some ⟨B, 0, none⟩) 1 sc]).run Try.prog W = .ok v (W.setRow g r2.toArray) := fun W hW ty dc sc => by
    have hBW : Blk W B (mvC m).toArray 35 := by unfold Blk; rw [hW, setRow_other w g B _ hne]; exact hB
    have h := run_copy_rowN W 23 23 ty 35 g (i * 7) (A.length + 1 - i) dc ⟨B, 0, none⟩ 1 sc 7 r1.toArray 35 (mvC m) Try.underlying23 hsz (by rw [hW]; exact setRow_heap w g cur _ _ _ hh) (by rw [hml]; have : Nat.min 1 (A.length + 1 - i) = 1 := Nat.min_eq_left (by omega); rw [this])
      (fun j u hj => by rw [add_zero_cells]; exact hBW.cell j (by simpa using hj)) (by rw [hml]; simp [e3, hcl]; omega) (mvC_one m)
    rw [hr2]
    exact ⟨_, by simpa [hml] using h⟩
  have hfin : ∀ W : World, W.heap = (w.setRow g r1.toArray).heap → W.os = w.os → W.tape = w.tape → W.output = w.output → Inserted N A m i (.slice (some ⟨g, 0, none⟩) A.length c) w (.returned (.slice (some ⟨g, 0, none⟩) (A.length + 1) c)) (W.setRow g r2.toArray) := fun W h1 h2 h3 h4 => by
    refine ⟨g, c, rfl, own_row (cur := r2.toArray) ?_ hNg hroom hcm (by simp [e2, hcl]) ?_, ?_⟩
    · refine setRow_heap W g r1.toArray _ _ _ ?_
      rw [h1]; exact setRow_heap w g cur _ _ _ hh
    · rw [← mvsC_take, ← mvsC_drop A i (by omega), show (A.length + 1) * 7 = A.length * 7 + 7 by omega]; simpa using e1
    · refine ⟨h2, h3, h4, by rw [setRow_size, h1, setRow_size]; exact Nat.le_refl _, fun k hk hn => ?_⟩
      have hkg : k ≠ g := fun e => hn (by rw [e]; rfl)
      rw [setRow_other W g k _ hkg, h1, setRow_other w g k _ hkg]
  have hi0 : (0 : Int) ≤ (i : Int) := by omega
  have hi1 : (i : Int) < (A.length : Int) := by omega
  have hz2 : ¬ ((i : Int) = (A.length : Int)) := by omega
  have hw1 : IntKind.i64.wrap ((i : Int) + 1) = (i : Int) + 1 := by rw [IntKind.wrap_i64]; omega
  have hw2 : IntKind.i64.wrap ((A.length : Int) + 1) = (A.length : Int) + 1 := by rw [IntKind.wrap_i64]; omega
  have hrm : (A.length : Int) + 1 ≤ (c : Int) := by omega
  have hin : (i : Int) ≤ (A.length : Int) + 1 := by omega
  have hb1 : (0 : Int) ≤ (i : Int) + 1 := by omega
  have hin1 : i ≤ A.length := by omega
  have hin2 : (i : Int) ≤ (A.length : Int) := by omega
  have hin3 : (i : Int) + 1 ≤ (A.length : Int) + 1 := by omega
  have hb2 : ¬ (c = i + 1) := by omega
  have hb4 : ¬ (c = i) := by omega
  have htn : ((i : Int) + 1).toNat = i + 1 := by omega
  have htn2 : ((A.length : Int) + 1).toNat = A.length + 1 := by omega
  have HF := Lib.hid hfin
  have H1 := Lib.hid hcp1
  have H2 := Lib.hid hcp2
  clear hfin hcp1 hcp2 e1 e2 e3 hr1 hr2 hsrc1 hcells honeD hdl hxl ht hh hB hs hcl
  have hov0 := hov w rfl
  have mixed : Try.prog.follows .mixedOrders = true := by kernel_rfl
  clear hov
  go_enter Try.func57, Try.ntmps57
  go_wp2_with (simp only [hov0])
  obtain ⟨v1, hc1⟩ := H1.out w.drew rfl 3 (c - (i + 1)) (c - i)
  go_region_law_o (refine step_copy_runI rfl _ _ 23 23 rfl (.slice (some ⟨g, (i + 1) * 7, none⟩) (A.length + 1 - (i + 1)) (c - (i + 1))) (.slice (some ⟨g, i * 7, none⟩) (A.length + 1 - i) (c - i)) (by simp [Act.eval, Act.put]) (by simp [Act.eval, Act.put]) hc1 ?_)
  obtain ⟨v2, hc2⟩ := H2.out (w.drew.setRow g r1.toArray) rfl 3 (c - i) 1
  go_wp2_with (at_builtin; refine wpList_copy_runI _ rfl _ _ 23 23 rfl _ _ rfl rfl hc2 ?_)
  go_ret
  exact HF.out _ rfl rfl rfl rfl

set_option maxRecDepth 100000 in
set_option maxHeartbeats 8000000 in
theorem insert_grow (A : List Mv) (m : Mv) (N B g c i : Nat) (cur : Array Value) (w : World) (hh : w.heap[g]? = some (.cells cur 35 (0, 0))) (hs : cur.size = c * 7) (ht : cur.toList.take (A.length * 7) = mvsC A) (hi : i < A.length) (hnc : A.length ≤ c) (hroom : c < A.length + 1) (hl : A.length ≤ 1000) (hN : N ≤ w.heap.size)
    (hB : Blk w B (mvC m).toArray 35) :
    Calls Try.prog 57 #[.slice (some ⟨g, 0, none⟩) A.length c, .int .i64 (i : Int), .slice (some ⟨B, 0, none⟩) 1 1] w (Inserted N A m i (.slice (some ⟨g, 0, none⟩) A.length c) w) := by
  have hxl := mvsC_len A
  have hsz := sizeVerI
  have hdl : ((mvsC A).drop (i * 7)).length = (A.length - i) * 7 := by rw [List.length_drop, hxl, Nat.sub_mul]
  have hml : (mvC m).length = 7 := rfl
  have hcells : ∀ j u, (mvC m)[j]? = some u → w.cell? ((⟨B, 0, none⟩ : Addr).add j) = some u := fun j u hj => by rw [add_zero_cells]; exact hB.cell j (by simpa using hj)
  have honeD : ∀ v ∈ (mvsC A).drop (i * 7), v.oneCell' = true := fun v hv => mvsC_one A v (List.mem_of_mem_drop hv)
  obtain ⟨i0, hi0', hz0, hzs, hzb⟩ := info_parts infoVerI
  have hgl : g < w.heap.size := (Array.getElem?_eq_some_iff.1 hh).1
  have hBl := hB.lt
  have hsrc : ∀ j v, (mvsC A)[j]? = some v → w.cell? ⟨g, j, none⟩ = some v := fun j v hj => by
    rw [← ht, List.getElem?_take] at hj
    have hj' : cur.toList[j]? = some v := by split at hj <;> simp_all
    exact Blk.cell (T := 35) (show Blk w g cur 35 from hh) _ (by simpa using hj')
  have hold : (Builtin.firstCells i0.size i (.slice (some ⟨g, 0, none⟩) i c)).run Try.prog w.drew = .ok ((mvsC A).take (i * 7)).toArray w.drew := by
    rw [hzs]
    exact run_firstCells_some w.drew 7 i ⟨g, 0, none⟩ i c ((mvsC A).take (i * 7)) (by rw [List.length_take, hxl]; omega) (fun j v hj => by
      rw [add_zero_cells]
      rw [List.getElem?_take] at hj
      split at hj
      · exact hsrc j v hj
      · cases hj)
  have hik : i + (A.length + 1 - i) = A.length + 1 := by omega
  have hkk : (A.length : Int) + 1 - (i : Int) = ((A.length + 1 - i : Nat) : Int) := by omega
  obtain ⟨G, hG⟩ : ∃ G, G = grownCap w (A.length + 1) c 35 := ⟨_, rfl⟩
  have hGn : A.length + 1 ≤ G := by rw [hG]; exact grownCap_ge w _ _ _
  have hGm : G ≤ maxLen := by rw [hG]; exact grownCap_le_maxLen w _ _ _ (by unfold maxLen; omega)
  obtain ⟨ROW, hROW⟩ : ∃ ROW : Array Value, ROW = ((mvsC A).take (i * 7)).toArray ++ Builtin.zeroCells (Value.agg #[.int .i64 0, .int .i64 0, .int .i64 0, .int .i64 0, .int .i64 0, .int .i64 0, .slice none 0 0]).cells (A.length + 1 - i) ++ Builtin.zeroCells (Value.agg #[.int .i64 0, .int .i64 0, .int .i64 0, .int .i64 0, .int .i64 0, .int .i64 0, .slice none 0 0]).cells (G - (A.length + 1)) := ⟨_, rfl⟩
  have hz7 : (Value.agg #[.int .i64 0, .int .i64 0, .int .i64 0, .int .i64 0, .int .i64 0, .int .i64 0, .slice none 0 0]).cells.size = 7 := rfl
  have hRs : ROW.size = G * 7 := by
    rw [hROW, Array.size_append, Array.size_append, size_zeroCells, size_zeroCells, hz7]
    simp only [List.size_toArray, List.length_take, hxl]
    omega
  have hrz : ∀ ty, (Builtin.append_ #[23, 3] ty #[.slice (some ⟨g, 0, none⟩) i c, .int .i64 ((A.length : Int) + 1 - (i : Int))]).run Try.prog w =
      .ok (.slice (some ⟨w.heap.size, 0, none⟩) (A.length + 1) G) (w.drew.alloc (.cells ROW 35)) := fun ty => by
    have h := Lib.run_append_grow_zeros w 23 3 ty 35 i0 _ .i64 .i64 Try.underlying23 Try.underlying3 hi0' hz0 (some ⟨g, 0, none⟩) i c ((mvsC A).take (i * 7)) hold (A.length + 1 - i) (by omega) (by omega) (by omega) (by omega) (by rw [hzb]; omega) (by rw [hzb, hik]; exact growslice_fits hroom (by omega))
    rw [hik, ← hG, ← hROW] at h
    rw [hkk]
    exact h
  have hRt : ROW.toList.take (i * 7) = (mvsC A).take (i * 7) := by
    rw [hROW]
    simp only [Array.toList_append, List.append_assoc]
    rw [List.take_left' (by rw [List.length_take, hxl]; omega)]
  obtain ⟨r1, hr1⟩ : ∃ r1, r1 = ROW.toList.take (i * 7) ++ mvC m ++ ROW.toList.drop (i * 7 + (mvC m).length) := ⟨_, rfl⟩
  obtain ⟨r2, hr2⟩ : ∃ r2, r2 = r1.take (i * 7 + 7) ++ (mvsC A).drop (i * 7) ++ r1.drop (i * 7 + 7 + ((mvsC A).drop (i * 7)).length) := ⟨_, rfl⟩
  obtain ⟨e1, e2, e3⟩ := new_row ROW.toList (mvsC A) (mvC m) (i * 7) 7 (A.length * 7) hRt hxl (by omega) hml (by simp [hRs]; omega) r1 r2 hr1 hr2
  have hnew : (w.alloc (.cells ROW 35)).heap[w.heap.size]? = some (.cells ROW 35 (0, 0)) := Blk.new w ROW 35
  have hcp1 : ∀ (W : World), W.heap = (w.alloc (.cells ROW 35)).heap → ∀ ty dc, (Builtin.copy_ #[23, 23] ty #[.slice (some ⟨w.heap.size, i * 7, none⟩) (A.length + 1 - i) dc, .slice (some ⟨B, 0, none⟩) 1 1]).run Try.prog W = .ok (goInt 1) (W.setRow w.heap.size r1.toArray) := fun W hW ty dc => by
    have hm1 : Nat.min 1 (A.length + 1 - i) = 1 := Nat.min_eq_left (by omega)
    have hBW : Blk W B (mvC m).toArray 35 := by unfold Blk; rw [hW]; exact hB.alloc _
    rw [hr1]
    have h := run_copy_rowN W 23 23 ty 35 w.heap.size (i * 7) (A.length + 1 - i) dc ⟨B, 0, none⟩ 1 1 7 ROW 35 (mvC m) Try.underlying23 hsz (by rw [hW]; exact hnew) (by rw [hml, hm1])
      (fun j u hj => by rw [add_zero_cells]; exact hBW.cell j (by simpa using hj)) (by rw [hml, hRs]; omega) (mvC_one m)
    rw [hm1] at h
    exact h
  have hcp2 : ∀ (W : World), W.heap = ((w.alloc (.cells ROW 35)).setRow w.heap.size r1.toArray).heap → ∀ ty dc sc, (Builtin.copy_ #[23, 23] ty #[.slice (some ⟨w.heap.size, (i + 1) * 7, none⟩) (A.length + 1 - (i + 1)) dc, .slice (some ⟨g, i * 7, none⟩) (A.length - i) sc]).run Try.prog W = .ok (goInt ((A.length - i : Nat) : Int)) (W.setRow w.heap.size r2.toArray) := fun W hW ty dc sc => by
    have hm1 : Nat.min (A.length - i) (A.length + 1 - (i + 1)) = A.length - i := Nat.min_eq_left (by omega)
    have hgW : W.heap[g]? = w.heap[g]? := by rw [hW, setRow_other _ _ g _ (by omega)]; exact Below.heap_alloc w _ g hgl
    rw [hr2, ← show (i + 1) * 7 = i * 7 + 7 by omega]
    have h := run_copy_rowN W 23 23 ty 35 w.heap.size ((i + 1) * 7) (A.length + 1 - (i + 1)) dc ⟨g, i * 7, none⟩ (A.length - i) sc 7 r1.toArray 35 ((mvsC A).drop (i * 7)) Try.underlying23 hsz (by rw [hW]; exact setRow_heap _ _ ROW _ _ _ hnew) (by rw [hdl, hm1])
      (fun j v hj => by
        rw [List.getElem?_drop] at hj
        have ha : (⟨g, i * 7, none⟩ : Addr).add j = ⟨g, i * 7 + j, none⟩ := by
          unfold Addr.add; split
          · rename_i h; subst h; rfl
          · rfl
        rw [ha, World.cell?_of_block (w := w) (w' := W) hgW]
        exact hsrc _ v hj) (by rw [hdl]; simp [e3, hRs]; omega) honeD
    rw [hm1] at h
    simpa using h
  have hfin : ∀ W : World, W.heap = ((w.alloc (.cells ROW 35)).setRow w.heap.size r1.toArray).heap → W.os = w.os → W.tape = w.tape → W.output = w.output → Inserted N A m i (.slice (some ⟨g, 0, none⟩) A.length c) w (.returned (.slice (some ⟨w.heap.size, 0, none⟩) (A.length + 1) G)) (W.setRow w.heap.size r2.toArray) := fun W h1 h2 h3 h4 => by
    refine ⟨w.heap.size, G, rfl, own_row (cur := r2.toArray) ?_ hN hGn hGm (by simp [e2, hRs]) ?_, ?_⟩
    · refine setRow_heap W _ r1.toArray _ _ _ ?_
      rw [h1]; exact setRow_heap _ _ ROW _ _ _ hnew
    · rw [← mvsC_take, ← mvsC_drop A i (by omega), show (A.length + 1) * 7 = A.length * 7 + 7 by omega]; simpa using e1
    · refine ⟨h2, h3, h4, by rw [setRow_size, h1, setRow_size]; simp, fun k hk hn => ?_⟩
      have hkg : k ≠ w.heap.size := by omega
      rw [setRow_other W _ k _ hkg, h1, setRow_other _ _ k _ hkg]
      exact Below.heap_alloc w _ k hk
  have hi0 : (0 : Int) ≤ (i : Int) := by omega
  have hi1 : (i : Int) < (A.length : Int) := by omega
  have hz2 : ¬ ((i : Int) = (A.length : Int)) := by omega
  have hz3 : (c : Int) < (A.length : Int) + 1 := by omega
  have hw1 : IntKind.i64.wrap ((i : Int) + 1) = (i : Int) + 1 := by rw [IntKind.wrap_i64]; omega
  have hb1 : (0 : Int) ≤ (i : Int) + 1 := by omega
  have hin1 : i ≤ A.length := by omega
  have hin2 : (i : Int) ≤ (A.length : Int) := by omega
  have hin3 : (i : Int) + 1 ≤ (A.length : Int) + 1 := by omega
  have hin4 : (i : Int) ≤ (A.length : Int) + 1 := by omega
  have hci2 : (i : Int) ≤ (c : Int) := by omega
  have htn : ((i : Int) + 1).toNat = i + 1 := by omega
  have hGi : ¬ (G = i) := by omega
  have hGim : ¬ (G = i + 1) := by omega
  have hci : ¬ (c = i) := by omega
  have hG63 : G ≤ 9223372036854775807 := by unfold maxLen at hGm; omega
  have HF := Lib.hid hfin
  have H1 := Lib.hid hcp1
  have H2 := Lib.hid hcp2
  have HZ := Lib.hid hrz
  clear hfin hcp1 hcp2 hrz e1 e2 e3 hr1 hr2 hsrc hcells honeD hdl hxl ht hh hB hs hRs hROW hG hold hkk hik hRt hnew
  have mixed : Try.prog.follows .mixedOrders = true := by kernel_rfl
  go_enter Try.func57, Try.ntmps57
  have hc1 := H1.out (w.alloc (.cells ROW 35)).drew rfl 3 (G - i)
  go_wp2_with (first
    | (at_builtin; refine Lib.wpList_append_run _ rfl _ _ _ _ rfl _ _ rfl rfl _ _ (HZ.out _) ?_)
    | (at_builtin; refine wpList_copy_runI _ rfl _ _ 23 23 rfl _ _ rfl rfl hc1 ?_))
  go_region_law_o (refine step_copy_runI rfl _ _ 23 23 rfl (.slice (some ⟨w.heap.size, (i + 1) * 7, none⟩) (A.length + 1 - (i + 1)) (G - (i + 1))) (.slice (some ⟨g, i * 7, none⟩) (A.length - i) (c - i)) (by simp [Act.eval, Act.put]) (by simp [Act.eval, Act.put]) (H2.out ((w.alloc (.cells ROW 35)).drew.setRow w.heap.size r1.toArray).drew rfl 3 (G - (i + 1)) (c - i)) ?_)
  go_wp2
  go_ret
  exact HF.out _ rfl rfl rfl rfl

end Go.Proofs.Ytdheoaefmacamaa
