/- Walks: taking and giving. -/
import Derived.Test.YtifmdkcpbajdcabSpanW6
namespace Go.Proofs.Ytifmdkcpbajdcab
open Go.RowKit Go.Proofs Plain

set_option maxHeartbeats 400000 in
theorem tidy_any (l : Prof) (g c base : Nat) (w : World) (hown : Owns w base (some ⟨g, 0, none⟩) c l) (hb : base ≤ w.heap.size) (hm : l.length ≤ 1000) (hpos : 0 < l.length) :
    Calls Try.prog 67 #[.slice (some ⟨g, 0, none⟩) l.length c] w (RetOwn base (tidyL l) w) := by
  go_enter Try.func67, Try.ntmps67
  go_wp2_with (go_at_call 83; refine (compact_any l g c base _ hown hb hm hpos).mono ?_; rintro e w1 ⟨A, c1, rfl, h1, h2⟩)
  go_ret
  exact ⟨A, c1, rfl, h1, h2⟩

/-- What taking and giving hand back. -/
def RetPair (r : Prof × Bool) (w : World) (e : Ending) (w' : World) : Prop :=
  ∃ A c, e = .returned (.tuple #[.slice A r.1.length c, .bool r.2]) ∧ Sl w' 2 A r.1.length (stepCells r.1) ∧ Below w.heap.size w w'

theorem fr_own {w : World} {base size n c : Nat} {T : TypeId} {A : Option Addr} {xs : List Value} (h : w.ownsRow base T size (.slice A n c) n xs) : Fr base A := by
  rcases h.2 with ⟨hv, _⟩ | ⟨g, cap, cur, hv, hg, _⟩
  · injection hv with hA _ _; subst hA; exact Fr.none _
  · injection hv with hA _ _; subst hA; exact Fr.some hg

/-- The same, and whence: the given one, or a new one. -/
def RetPairF (A0 : Option Addr) (r : Prof × Bool) (w : World) (e : Ending) (w' : World) : Prop :=
  ∃ A c, e = .returned (.tuple #[.slice A r.1.length c, .bool r.2]) ∧ Sl w' 2 A r.1.length (stepCells r.1) ∧ Below w.heap.size w w' ∧ (A = A0 ∨ Fr w.heap.size A)
def RetPairB (r : Prof × Bool) (w : World) (e : Ending) (w' : World) : Prop :=
  ∃ A c, e = .returned (.tuple #[.slice A r.1.length c, .bool r.2]) ∧ Sl w' 2 A r.1.length (stepCells r.1) ∧ Below w.heap.size w w' ∧ Fr w.heap.size A
theorem RetPairF.pair {A0 : Option Addr} {r : Prof × Bool} {w w' : World} {e : Ending} (h : RetPairF A0 r w e w') : RetPair r w e w' := by
  obtain ⟨A, c, h1, h2, h3, _⟩ := h; exact ⟨A, c, h1, h2, h3⟩
theorem RetPairB.pair {r : Prof × Bool} {w w' : World} {e : Ending} (h : RetPairB r w e w') : RetPair r w e w' := by
  obtain ⟨A, c, h1, h2, h3, _⟩ := h; exact ⟨A, c, h1, h2, h3⟩
theorem Sl.beside {w : World} {size n g j : Nat} {A : Option Addr} {xs : List Value} (h : Sl w size A n xs) (hA : Fr (g + 1) A) (v : Value) : Sl (w.setCell ⟨g, j, Option.none⟩ v) size A n xs :=
  ⟨h.1, fun hn => by
    obtain ⟨b, off, e, hc⟩ := h.2 hn
    have hb := hA _ e
    exact ⟨b, off, e, fun i hi => (World.cell?_of_block (w := w) (Below.heap_setCell w ⟨g, j, Option.none⟩ v b (by simp only at hb ⊢; omega))).trans (hc i hi)⟩⟩

theorem good_len {l : Prof} (h : Plain.Good l) : 0 < l.length ∧ l.length ≤ 300 := by
  have hr := h.weak.rises
  obtain ⟨x, r, e, _⟩ := h
  have key : ∀ i, i < l.length → (i : Int) ≤ (l.getD i (0, 0)).1 := by
    intro i
    induction i with
    | zero => intro hi; have := (hr.bd 0 hi).1; simpa using this
    | succ i ih => intro hi; have := ih (by omega); have := hr.lt i (i + 1) (by omega) hi; omega
  have hp : 0 < l.length := by rw [e]; simp
  refine ⟨hp, ?_⟩
  have := key (l.length - 1) (by omega)
  have := (hr.bd (l.length - 1) (by omega)).2
  omega

theorem split_len (l : Prof) (t : Int) : (splitL l t).length ≤ l.length + 1 := by
  unfold splitL; split
  · omega
  · have : cnt l t ≤ l.length := by unfold cnt; exact List.Sublist.length_le (List.takeWhile_sublist _)
    simp; omega

/-- The first k steps raised, the others as they were. -/
def bumpTo (fr to n : Int) (l : Prof) (k : Nat) : Prof := (l.take k).map (bump fr to n) ++ l.drop k

theorem bumpTo_len (fr to n : Int) (l : Prof) (k : Nat) : (bumpTo fr to n l k).length = l.length := by simp [bumpTo]; omega
theorem bumpTo_zero (fr to n : Int) (l : Prof) : bumpTo fr to n l 0 = l := by simp [bumpTo]
theorem bumpTo_all (fr to n : Int) (l : Prof) : bumpTo fr to n l l.length = l.map (bump fr to n) := by simp [bumpTo]
theorem bumpTo_at (fr to n : Int) (l : Prof) (k : Nat) (h : k < l.length) : (bumpTo fr to n l k).getD k (0, 0) = l.getD k (0, 0) := by
  simp only [bumpTo, List.getD_eq_getElem?_getD]
  rw [List.getElem?_append_right (by simp; omega)]
  simp only [List.length_map, List.length_take, List.getElem?_drop]
  congr 2; omega
theorem bumpTo_succ (fr to n : Int) (l : Prof) (k : Nat) (h : k < l.length) : bumpTo fr to n l (k + 1) = (bumpTo fr to n l k).set k (bump fr to n (l.getD k (0, 0))) := by
  unfold bumpTo
  have e : l.take (k + 1) = l.take k ++ [l.getD k (0, 0)] := by
    rw [List.take_succ_eq_append_getElem h, List.getD_eq_getElem?_getD, List.getElem?_eq_getElem h]; rfl
  rw [e, List.map_append, List.append_assoc, List.set_append_right _ _ (by simp; omega)]
  have e2 : k - ((l.take k).map (bump fr to n)).length = 0 := by simp; omega
  rw [e2, List.drop_eq_getElem_cons h]
  rfl

def fitAt (fr to n : Int) (s : Stp) : Bool := !(decide (fr ≤ s.1) && decide (s.1 < to)) || (decide (0 ≤ s.2 + n) && decide (s.2 + n ≤ 16))

theorem fits_no {fr to n : Int} {l : Prof} {k : Nat} (hk : k < l.length) (h : fitAt fr to n (l.getD k (0, 0)) = false) : fits fr to n l = false := by
  simp only [fits, List.all_eq_false]
  refine ⟨l.getD k (0, 0), ?_, ?_⟩
  · rw [List.getD_eq_getElem?_getD, List.getElem?_eq_getElem hk]; exact List.getElem_mem _
  · rw [show (!(decide (fr ≤ (l.getD k (0, 0)).1) && decide ((l.getD k (0, 0)).1 < to)) || (decide (0 ≤ (l.getD k (0, 0)).2 + n) && decide ((l.getD k (0, 0)).2 + n ≤ 16))) = fitAt fr to n (l.getD k (0, 0)) from rfl, h]; simp
theorem fits_yes {fr to n : Int} {l : Prof} (h : ∀ k, k < l.length → fitAt fr to n (l.getD k (0, 0)) = true) : fits fr to n l = true := by
  simp only [fits, List.all_eq_true]
  intro s hs
  obtain ⟨i, hi, rfl⟩ := getD_of_mem (0, 0) hs
  exact h i hi

set_option maxRecDepth 100000 in
set_option maxHeartbeats 4000000 in
theorem add_bad (l : Prof) (A : Option Addr) (c : Nat) (fr to n : Int) (w : World) (h : Sl w 2 A l.length (stepCells l)) (hm : l.length ≤ maxLen) (hbad : ¬ (goodB l = true ∧ 0 ≤ fr ∧ fr ≤ to ∧ to ≤ 300)) :
    Calls Try.prog 57 #[.slice A l.length c, .int .i64 fr, .int .i64 to, .int .i64 n] w (RetPairF A (addL l fr to n) w) := by
  have HF := Lib.hid (show addL l fr to n = (l, false) by unfold addL; rw [if_neg hbad])
  by_cases h1 : goodB l = true
  · by_cases h2 : fr < 0
    · clear hbad
      go_enter Try.func57, Try.ntmps57
      go_wp2_with (go_at_call 55; refine (good_any l A c _ h hm).mono ?_; rintro e w1 ⟨rfl, hb1⟩)
      go_ret2
      exact ⟨A, c, by rw [HF.out]; rfl, by rw [HF.out]; exact h.below hb1, hb1, .inl rfl⟩
    · by_cases h3 : to < fr
      · clear hbad
        go_enter Try.func57, Try.ntmps57
        go_wp2_with (go_at_call 55; refine (good_any l A c _ h hm).mono ?_; rintro e w1 ⟨rfl, hb1⟩)
        go_ret2
        exact ⟨A, c, by rw [HF.out]; rfl, by rw [HF.out]; exact h.below hb1, hb1, .inl rfl⟩
      · have h4 : 300 < to := by
          rcases Int.lt_or_le 300 to with h | h
          · exact h
          · exact absurd ⟨h1, by omega, by omega, h⟩ hbad
        clear hbad
        go_enter Try.func57, Try.ntmps57
        go_wp2_with (go_at_call 55; refine (good_any l A c _ h hm).mono ?_; rintro e w1 ⟨rfl, hb1⟩)
        go_ret2
        exact ⟨A, c, by rw [HF.out]; rfl, by rw [HF.out]; exact h.below hb1, hb1, .inl rfl⟩
  · have h1 : goodB l = false := by simpa using h1
    clear hbad
    go_enter Try.func57, Try.ntmps57
    go_wp2_with (go_at_call 55; refine (good_any l A c _ h hm).mono ?_; rintro e w1 ⟨rfl, hb1⟩)
    go_ret2
    exact ⟨A, c, by rw [HF.out]; rfl, by rw [HF.out]; exact h.below hb1, hb1, .inl rfl⟩
end Go.Proofs.Ytifmdkcpbajdcab
