/- Walks: a step laid into a profile of one's own. -/
import Derived.Test.YtifmdkcpbajdcabSpanW3
import Derived.Test.YtifmdkcpbajdcabLaws
import Derived.Deep.RegionLaw
namespace Go.Proofs.Ytifmdkcpbajdcab
open Go.RowKit Go.Proofs Plain

theorem step_size : (Try.prog.info? 90).map (·.size) = some 2 := by kernel_rfl

theorem cells_app (l m : Prof) : stepCells (l ++ m) = stepCells l ++ stepCells m := by
  induction l with
  | nil => rfl
  | cons s l ih => simp [stepCells, ih]
theorem cells_take (l : Prof) (k : Nat) : stepCells (l.take k) = (stepCells l).take (k * 2) := by
  induction l generalizing k with
  | nil => simp [stepCells]
  | cons s l ih =>
    cases k with
    | zero => simp [stepCells]
    | succ k => rw [show (k + 1) * 2 = k * 2 + 1 + 1 by omega]; simp [stepCells, ih]
theorem cells_drop (l : Prof) (k : Nat) : stepCells (l.drop k) = (stepCells l).drop (k * 2) := by
  induction l generalizing k with
  | nil => simp [stepCells]
  | cons s l ih =>
    cases k with
    | zero => simp [stepCells]
    | succ k => rw [show (k + 1) * 2 = k * 2 + 1 + 1 by omega]; simp [stepCells, ih]

theorem owns_mk {w : World} {base g c : Nat} {l : Prof} {cur : List Value} (hbg : base ≤ g) (hg : w.heap[g]? = some (.cells cur.toArray 90 (0, 0))) (hlen : cur.length = c * 2) (hc : l.length ≤ c) (hcm : c ≤ maxLen)
    (ht : cur.take (l.length * 2) = stepCells l) : Owns w base (some ⟨g, 0, none⟩) c l :=
  ⟨stepCells_len l, .inr ⟨g, c, cur.toArray, rfl, hbg, hg, hc, hcm, by simpa using hlen, by simpa using ht⟩⟩

set_option maxRecDepth 100000 in
set_option maxHeartbeats 2000000 in
/-- At the end: an append. -/
theorem insert_end (l : Prof) (A : Option Addr) (c base vb : Nat) (s : Stp) (w : World) (hown : Owns w base A c l) (hb : base ≤ w.heap.size)
    (hv : Sl w 2 (some ⟨vb, 0, none⟩) 1 (stepCells [s])) (hm : l.length ≤ 1000) :
    Calls Try.prog 82 #[.slice A l.length c, .int .i64 l.length, .slice (some ⟨vb, 0, none⟩) 1 1] w (RetOwn base (l ++ [s]) w) := by
  obtain ⟨i0, hi0, hz0, hz1, hz2⟩ := info_parts step_info
  have hc : l.length ≤ c := by
    rcases hown.2 with ⟨hv, hn⟩ | ⟨g, cap, cur, hv, _, _, hle, _⟩
    · omega
    · injection hv with _ _ e; omega
  have hml : l.length + 1 ≤ maxLen := by unfold maxLen; omega
  rcases Nat.eq_or_lt_of_le hc with rfl | hlt
  all_goals
    go_enter Try.func82, Try.ntmps82
    go_wp2_with (at_builtin; refine wpList_append_own _ rfl (.tmp 23) (.tmp 24) 53 rfl base 90 i0 _ 2 16 Try.underlying53 hi0 hz0 hz1 hz2 rfl (by omega) _ l.length (stepCells l) rfl hown ⟨vb, 0, none⟩ 1 1 (stepCells [s]) rfl rfl hv.news (one_cells [s]) hml (by omega) hb ?_)
    intro v' w1 hown' hgrow hn1
    obtain ⟨A', c', rfl⟩ := own_form hown'
    clear hn1
    go_wp2_with fail
    go_ret
    refine ⟨A', c', by simp, ?_, (Below.refl _ _).grown hgrow hb ?_⟩
    · unfold Owns; rw [cells_app, List.length_append]; exact hown'
    · intro k hk
      exact (hown.lt k hk).1

set_option maxRecDepth 100000 in
set_option maxHeartbeats 4000000 in
/-- Ahead of others, with room. -/
theorem insert_room (l : Prof) (g c base vb i : Nat) (s : Stp) (w : World) (hown : Owns w base (some ⟨g, 0, none⟩) c l)
    (hv : w.heap[vb]? = some (.cells #[.int .i64 s.1, .int .i64 s.2] 90 (0, 0))) (hne : vb ≠ g) (hm : l.length ≤ 1000) (hi : i < l.length) (hc : l.length + 1 ≤ c) :
    Calls Try.prog 82 #[.slice (some ⟨g, 0, none⟩) l.length c, .int .i64 i, .slice (some ⟨vb, 0, none⟩) 1 1] w (RetOwn base (l.take i ++ s :: l.drop i) w) := by
  obtain ⟨cur, hbg, hg, hcm, hcs, htake⟩ : ∃ cur : Array Value, base ≤ g ∧ w.heap[g]? = some (.cells cur 90 (0, 0)) ∧ c ≤ maxLen ∧ cur.size = c * 2 ∧ cur.toList.take (l.length * 2) = stepCells l := by
    rcases hown.2 with ⟨hv, hn⟩ | ⟨g', cap, cur, hv, h1, h2, _, h3, h4, h5⟩
    · omega
    · injection hv with e1 _ e2
      injection e1 with e1; injection e1 with e1 _
      subst e1; subst e2
      exact ⟨cur, h1, h2, h3, h4, h5⟩
  unfold maxLen at hcm
  have hz2 : ¬ ((i : Int) = (l.length : Int)) := by omega
  have hz3 : ¬ (c : Int) < (l.length : Int) + 1 := by omega
  have hw1 : IntKind.i64.wrap ((i : Int) + 1) = (i : Int) + 1 := IntWalk.i64_in _ (by omega)
  have hb1 : (0 : Int) ≤ (i : Int) + 1 := by omega
  have htn : ((i : Int) + 1).toNat = i + 1 := by omega
  have hov : ∀ o lb cb, (callFunc 95 #[.slice (some ⟨vb, 0, none⟩) 1 1, .slice (some ⟨g, o, none⟩) lb cb]).run Try.prog w = .ok (.value (.bool false)) w := fun o lb cb => by
    rw [run_callFunc_extern Try.func95 (by kernel_rfl) (by kernel_rfl) (by kernel_rfl) (e := Extern.SlicesOverlaps.overlaps #[53, 53] #[4]) (by kernel_rfl),
      Lib.run_overlaps_apart w 53 4 90 Try.underlying53 2 (fun w => by kernel_rfl) ⟨vb, 0, none⟩ ⟨g, o, none⟩ 1 1 lb cb hne 90 90 2 (c * 2) (by simp [World.shape?, hv]) (by simp [World.shape?, hg, hcs]) (by omega) (by simp [World.frozen?, hv]) (by simp [World.frozen?, hv])]
    rfl
  have hsl := stepCells_len l
  have hcurlen : cur.toList.length = c * 2 := by simpa using hcs
  have hread : ∀ j v, (stepCells l)[j]? = some v → cur[j]? = some v := fun j v hj => by
    rw [← htake, List.getElem?_take] at hj
    split at hj
    · simpa using hj
    · cases hj
  have hdl : (stepCells (l.drop i)).length = Nat.min (l.length + 1 - i) (l.length - i) * 2 := by
    rw [cells_drop, List.length_drop, hsl]; simp only [Nat.min_def]; split <;> omega
  have hcp1 : ∀ ty dc sc, (Builtin.copy_ #[53, 53] ty #[.slice (some ⟨g, (i + 1) * 2, none⟩) (l.length - i) dc, .slice (some ⟨g, i * 2, none⟩) (l.length + 1 - i) sc]).run Try.prog w.drew =
      .ok (goInt (Nat.min (l.length + 1 - i) (l.length - i))) (w.drew.setRow g (splice cur.toList ((i + 1) * 2) (stepCells (l.drop i))).toArray) := fun ty dc sc =>
    run_copy_cellsK w.drew _ _ ty 90 2 g ((i + 1) * 2) (l.length - i) dc ⟨g, i * 2, none⟩ (l.length + 1 - i) sc cur 90 _ Try.underlying53 step_size hg hdl
      (fun j v hj => by
        rw [add_at]
        show w.cell? _ = _
        rw [cell_in hg]
        rw [cells_drop, List.getElem?_drop] at hj
        exact hread _ _ hj)
      (by rw [cells_drop, List.length_drop, hsl, hcs]; omega) (one_cells _)
  obtain ⟨W1, hW1⟩ : ∃ W1, W1 = w.drew.setRow g (splice cur.toList ((i + 1) * 2) (stepCells (l.drop i))).toArray := ⟨_, rfl⟩
  have hg1 : W1.heap[g]? = some (.cells (splice cur.toList ((i + 1) * 2) (stepCells (l.drop i))).toArray 90 (0, 0)) := by rw [hW1]; exact setRow_is (w := w.drew) hg _
  have hv1 : W1.heap[vb]? = some (.cells #[.int .i64 s.1, .int .i64 s.2] 90 (0, 0)) := by rw [hW1]; exact (setRow_other w.drew g vb _ hne).trans hv
  have hbel : Below base w W1 := by rw [hW1]; exact below_setRow ((Below.refl _ _).drew) hbg _
  obtain ⟨s1, s2⟩ := splice_ins cur.toList (stepCells l) [.int .i64 s.1, .int .i64 s.2] i l.length htake (by rw [hcurlen]; omega) hi rfl
  rw [← cells_drop] at s1 s2
  have hl1 : (splice cur.toList ((i + 1) * 2) (stepCells (l.drop i))).length = c * 2 := by
    rw [length_splice _ _ _ (by rw [cells_drop, List.length_drop, hsl, hcurlen]; omega), hcurlen]
  have hcp2 : ∀ ty dc, (Builtin.copy_ #[53, 53] ty #[.slice (some ⟨g, i * 2, none⟩) (l.length + 1 - i) dc, .slice (some ⟨vb, 0, none⟩) 1 1]).run Try.prog W1 =
      .ok (goInt (Nat.min 1 (l.length + 1 - i))) (W1.setRow g (splice (splice cur.toList ((i + 1) * 2) (stepCells (l.drop i))) (i * 2) [.int .i64 s.1, .int .i64 s.2]).toArray) := fun ty dc =>
    run_copy_cellsK W1 _ _ ty 90 2 g (i * 2) (l.length + 1 - i) dc ⟨vb, 0, none⟩ 1 1 (splice cur.toList ((i + 1) * 2) (stepCells (l.drop i))).toArray 90 _ Try.underlying53 step_size hg1 (by simp only [Nat.min_def]; split <;> simp; omega)
      (fun j v hj => by rw [add_at, Nat.zero_add, cell_in hv1]; simpa using hj)
      (by rw [List.size_toArray, hl1]; simp only [List.length_cons, List.length_nil]; omega) (by simp [Value.oneCell'])
  obtain ⟨W2, hW2⟩ : ∃ W2, W2 = W1.setRow g (splice (splice cur.toList ((i + 1) * 2) (stepCells (l.drop i))) (i * 2) [.int .i64 s.1, .int .i64 s.2]).toArray := ⟨_, rfl⟩
  have hg2 : W2.heap[g]? = some (.cells (splice (splice cur.toList ((i + 1) * 2) (stepCells (l.drop i))) (i * 2) [.int .i64 s.1, .int .i64 s.2]).toArray 90 (0, 0)) := by rw [hW2]; exact setRow_is hg1 _
  have hbel2 : Below base w W2 := by rw [hW2]; exact below_setRow hbel hbg _
  rw [← hW1] at hcp1
  rw [← hW2] at hcp2
  have hin : i ≤ l.length := by omega
  have hb2 : ¬ (c = i + 1) := by omega
  have hb3 : (i : Int) ≤ (l.length : Int) + 1 := by omega
  have hb4 : ¬ (c = i) := by omega
  have HG2 := Lib.hid hg2
  have HS1 := Lib.hid s1
  have HS2 := Lib.hid s2
  have HL := Lib.hid hcurlen
  clear hown hg2 hg1 hv1 hl1 hdl hread hW1 hW2 s1 s2 hcurlen htake hsl hbel hcs
  go_enter Try.func82, Try.ntmps82
  go_wp2_with (simp only [hov])
  go_region_law (refine step_copy_runI rfl (.tmp 73) (.tmp 76) 53 53 rfl _ _ (by simp [Act.eval, Act.put]) (by simp [Act.eval, Act.put]) (hcp1 _ _ _) ?_)
  go_wp2_with (at_builtin; refine wpList_copy_runI _ rfl (.tmp 80) (.tmp 81) 53 53 rfl _ _ rfl rfl (hcp2 _ _) ?_)
  go_ret
  have hlen : (l.take i ++ s :: l.drop i).length = l.length + 1 := by simp; omega
  refine ⟨some ⟨g, 0, none⟩, c, by rw [hlen]; rfl, owns_mk hbg HG2.out (by rw [HS1.out, HL.out]) (by rw [hlen]; exact hc) (by unfold maxLen; omega) ?_, hbel2⟩
  rw [hlen, HS2.out, cells_app, cells_take, stepCells, cells_drop]
  simp

set_option maxRecDepth 100000 in
set_option maxHeartbeats 4000000 in
/-- Ahead of others, without room. -/
theorem insert_grow (l : Prof) (g base vb i : Nat) (s : Stp) (w : World) (hown : Owns w base (some ⟨g, 0, none⟩) l.length l) (hb : base ≤ w.heap.size)
    (hv : w.heap[vb]? = some (.cells #[.int .i64 s.1, .int .i64 s.2] 90 (0, 0))) (hm : l.length ≤ 1000) (hi : i < l.length) :
    Calls Try.prog 82 #[.slice (some ⟨g, 0, none⟩) l.length l.length, .int .i64 i, .slice (some ⟨vb, 0, none⟩) 1 1] w (RetOwn base (l.take i ++ s :: l.drop i) w) := by
  obtain ⟨cur, hbg, hg, hcs, htake⟩ : ∃ cur : Array Value, base ≤ g ∧ w.heap[g]? = some (.cells cur 90 (0, 0)) ∧ cur.size = l.length * 2 ∧ cur.toList.take (l.length * 2) = stepCells l := by
    rcases hown.2 with ⟨hv, hn⟩ | ⟨g', cap, cur, hv, h1, h2, _, h3, h4, h5⟩
    · omega
    · injection hv with e1 _ e2
      injection e1 with e1; injection e1 with e1 _
      subst e1; subst e2
      exact ⟨cur, h1, h2, h4, h5⟩
  obtain ⟨i0, hi0, hz0, hzs, hzb⟩ := info_parts step_info
  have hsl := stepCells_len l
  have hgw : g < w.heap.size := (Array.getElem?_eq_some_iff.1 hg).1
  have hvw : vb < w.heap.size := (Array.getElem?_eq_some_iff.1 hv).1
  have hread : ∀ j v, (stepCells l)[j]? = some v → cur[j]? = some v := fun j v hj => by
    rw [← htake, List.getElem?_take] at hj
    split at hj
    · simpa using hj
    · cases hj
  have hkk : (l.length : Int) + 1 - (i : Int) = ((l.length + 1 - i : Nat) : Int) := by omega
  have hik : i + (l.length + 1 - i) = l.length + 1 := by omega
  have hold : (Builtin.firstCells i0.size i (.slice (some ⟨g, 0, none⟩) i l.length)).run Try.prog w.drew = .ok ((stepCells l).take (i * 2)).toArray w.drew := by
    rw [hzs]
    exact run_firstCells_some w.drew 2 i ⟨g, 0, none⟩ i l.length ((stepCells l).take (i * 2)) (by rw [List.length_take]; omega) (fun j v hj => by
      rw [add_at, Nat.zero_add]
      show w.cell? _ = _
      rw [cell_in hg]
      rw [List.getElem?_take] at hj
      split at hj
      · exact hread j v hj
      · cases hj)
  obtain ⟨G, hG⟩ : ∃ G, G = grownCap w (l.length + 1) l.length 90 := ⟨_, rfl⟩
  obtain ⟨ROW, hROW⟩ : ∃ ROW : List Value, ROW = (stepCells l).take (i * 2) ++ (Builtin.zeroCells #[.int .i64 0, .int .i64 0] (l.length + 1 - i) ++ Builtin.zeroCells #[.int .i64 0, .int .i64 0] (G - (l.length + 1))).toList := ⟨_, rfl⟩
  obtain ⟨W1, hW1⟩ : ∃ W1, W1 = (w.alloc (.cells ROW.toArray 90)).drew := ⟨_, rfl⟩
  have hrz : ∀ ty, (Builtin.append_ #[53, 3] ty #[.slice (some ⟨g, 0, none⟩) i l.length, .int .i64 ((l.length : Int) + 1 - (i : Int))]).run Try.prog w =
      .ok (.slice (some ⟨w.heap.size, 0, none⟩) (l.length + 1) G) W1 := fun ty => by
    have h := Lib.run_append_grow_zeros w 53 3 ty 90 i0 _ .i64 .i64 Try.underlying53 Try.underlying3 hi0 hz0 (some ⟨g, 0, none⟩) i l.length _ hold (l.length + 1 - i) (by omega) (by omega) (by omega) (by omega) (by rw [hzb]; omega) (by rw [hzb, hik]; exact growslice_fits (by omega) (by omega))
    rw [hik, ← hG] at h
    have e : ∀ (X : List Value) (Z1 Z2 : Array Value), X.toArray ++ Z1 ++ Z2 = (X ++ (Z1 ++ Z2).toList).toArray := fun X Z1 Z2 => by
      apply Array.ext'
      rw [Array.toList_append, Array.toList_append, Array.toList_append, List.append_assoc]
    rw [hkk, h, hW1, hROW, e]
    rfl
  have hGn : l.length + 1 ≤ G := by rw [hG]; exact grownCap_ge w _ _ _
  have hG63 : G ≤ maxLen := by rw [hG]; exact grownCap_le_maxLen w (l.length + 1) l.length 90 (by unfold maxLen; omega)
  have hRl : ROW.length = G * 2 := by
    rw [hROW]; simp [Builtin.zeroCells, hsl]; omega
  have hN1 : W1.heap[w.heap.size]? = some (.cells ROW.toArray 90 (0, 0)) := by rw [hW1]; exact heap_alloc_new w _
  have hv1 : W1.heap[vb]? = some (.cells #[.int .i64 s.1, .int .i64 s.2] 90 (0, 0)) := by rw [hW1]; exact (Below.heap_alloc w _ vb hvw).trans hv
  have hg1 : W1.heap[g]? = some (.cells cur 90 (0, 0)) := by rw [hW1]; exact (Below.heap_alloc w _ g hgw).trans hg
  have hb1 : Below base w W1 := by rw [hW1]; exact ((Below.refl _ _).alloc hb _).drew
  obtain ⟨s1, s2⟩ := splice_ins2 ROW (stepCells l) [.int .i64 s.1, .int .i64 s.2] i l.length hsl (by rw [hROW, List.take_append_of_le_length (by rw [List.length_take]; omega), List.take_take, Nat.min_self]) (by rw [hRl]; omega) hi rfl
  rw [← cells_drop] at s1 s2
  have hl1 : (splice ROW (i * 2) [.int .i64 s.1, .int .i64 s.2]).length = G * 2 := by
    rw [length_splice _ _ _ (by simp only [List.length_cons, List.length_nil]; omega), hRl]
  have hcpA : ∀ ty dc, (Builtin.copy_ #[53, 53] ty #[.slice (some ⟨w.heap.size, i * 2, none⟩) (l.length + 1 - i) dc, .slice (some ⟨vb, 0, none⟩) 1 1]).run Try.prog W1 =
      .ok (goInt (Nat.min 1 (l.length + 1 - i))) (W1.setRow w.heap.size (splice ROW (i * 2) [.int .i64 s.1, .int .i64 s.2]).toArray) := fun ty dc =>
    run_copy_cellsK W1 _ _ ty 90 2 w.heap.size (i * 2) (l.length + 1 - i) dc ⟨vb, 0, none⟩ 1 1 ROW.toArray 90 _ Try.underlying53 step_size hN1 (by simp only [Nat.min_def]; split <;> simp; omega)
      (fun j v hj => by rw [add_at, Nat.zero_add, cell_in hv1]; simpa using hj)
      (by rw [List.size_toArray, hRl]; simp only [List.length_cons, List.length_nil]; omega) (by simp [Value.oneCell'])
  obtain ⟨W2, hW2⟩ : ∃ W2, W2 = W1.setRow w.heap.size (splice ROW (i * 2) [.int .i64 s.1, .int .i64 s.2]).toArray := ⟨_, rfl⟩
  have hN2 : W2.heap[w.heap.size]? = some (.cells (splice ROW (i * 2) [.int .i64 s.1, .int .i64 s.2]).toArray 90 (0, 0)) := by rw [hW2]; exact setRow_is hN1 _
  have hg2 : W2.heap[g]? = some (.cells cur 90 (0, 0)) := by rw [hW2]; exact (setRow_other W1 w.heap.size g _ (by omega)).trans hg1
  have hb2 : Below base w W2 := by rw [hW2]; exact below_setRow hb1 hb _
  have hcpB : ∀ ty dc sc, (Builtin.copy_ #[53, 53] ty #[.slice (some ⟨w.heap.size, (i + 1) * 2, none⟩) (l.length - i) dc, .slice (some ⟨g, i * 2, none⟩) (l.length - i) sc]).run Try.prog W2.drew =
      .ok (goInt (Nat.min (l.length - i) (l.length - i))) (W2.drew.setRow w.heap.size (splice (splice ROW (i * 2) [.int .i64 s.1, .int .i64 s.2]) ((i + 1) * 2) (stepCells (l.drop i))).toArray) := fun ty dc sc =>
    run_copy_cellsK W2.drew _ _ ty 90 2 w.heap.size ((i + 1) * 2) (l.length - i) dc ⟨g, i * 2, none⟩ (l.length - i) sc (splice ROW (i * 2) [.int .i64 s.1, .int .i64 s.2]).toArray 90 _ Try.underlying53 step_size hN2
      (by rw [cells_drop, List.length_drop, hsl]; simp only [Nat.min_def]; split <;> omega)
      (fun j v hj => by
        rw [add_at]
        show W2.cell? _ = _
        rw [cell_in hg2]
        rw [cells_drop, List.getElem?_drop] at hj
        exact hread _ _ hj)
      (by rw [List.size_toArray, hl1, cells_drop, List.length_drop, hsl]; omega) (one_cells _)
  obtain ⟨W3, hW3⟩ : ∃ W3, W3 = W2.drew.setRow w.heap.size (splice (splice ROW (i * 2) [.int .i64 s.1, .int .i64 s.2]) ((i + 1) * 2) (stepCells (l.drop i))).toArray := ⟨_, rfl⟩
  have HG3 := Lib.hid (show W3.heap[w.heap.size]? = some (.cells (splice (splice ROW (i * 2) [.int .i64 s.1, .int .i64 s.2]) ((i + 1) * 2) (stepCells (l.drop i))).toArray 90 (0, 0)) by rw [hW3]; exact setRow_is (w := W2.drew) hN2 _)
  have hb3 : Below base w W3 := by rw [hW3]; exact below_setRow hb2.drew hb _
  rw [← hW2] at hcpA
  rw [← hW3] at hcpB
  have HS1 := Lib.hid s1
  have HS2 := Lib.hid s2
  have HL := Lib.hid hRl
  have hz2 : ¬ ((i : Int) = (l.length : Int)) := by omega
  have hw1 : IntKind.i64.wrap ((i : Int) + 1) = (i : Int) + 1 := IntWalk.i64_in _ (by omega)
  have hp1 : (0 : Int) ≤ (i : Int) + 1 := by omega
  have htn : ((i : Int) + 1).toNat = i + 1 := by omega
  have hG63' : G ≤ 9223372036854775807 := by unfold maxLen at hG63; omega
  have hGi : ¬ (G = i) := by omega
  have hGim : ¬ (G = i + 1) := by omega
  have hci : ¬ (l.length = i) := by omega
  have hin : i ≤ l.length := by omega
  have hin2 : (i : Int) ≤ (l.length : Int) := by omega
  clear hown hg hg1 hg2 hN1 hN2 hv hv1 hl1 hread hW1 hW2 hW3 hROW hRl hG s1 s2 htake hsl hb1 hb2 hcs hold hkk hik hi0 hz0 hzs hzb hG63
  go_enter Try.func82, Try.ntmps82
  go_wp2_with (first
    | (at_builtin; refine Lib.wpList_append_run _ rfl (.tmp 34) (.tmp 39) _ _ rfl _ _ rfl rfl _ _ (hrz _) ?_)
    | (at_builtin; refine wpList_copy_runI _ rfl (.tmp 43) (.tmp 44) 53 53 rfl _ _ rfl rfl (hcpA _ _) ?_))
  go_region_law (refine step_copy_runI rfl (.tmp 50) (.tmp 53) 53 53 rfl _ _ (by simp [Act.eval, Act.put]) (by simp [Act.eval, Act.put]) (hcpB _ _ _) ?_)
  go_wp2_with fail
  go_ret
  have hlen : (l.take i ++ s :: l.drop i).length = l.length + 1 := by simp; omega
  refine ⟨some ⟨w.heap.size, 0, none⟩, G, by rw [hlen]; rfl, owns_mk hb HG3.out (by rw [HS1.out, HL.out]) (by rw [hlen]; exact hGn) (by unfold maxLen; omega) ?_, hb3⟩
  rw [hlen, HS2.out, cells_app, cells_take, stepCells, cells_drop]
  simp
end Go.Proofs.Ytifmdkcpbajdcab
