/- Walks: profiles that are read. -/
import Derived.Test.YtifmdkcpbajdcabWords
import Derived.Test.YtifmdkcpbajdcabPlain
import Derived.Test.YtifmdkcpbajdcabChecked
import Derived.WalkKit
import Derived.WalkSpells
import Derived.WalkLawsBesides
import Derived.Deep.QuietTactic
import Derived.BigQuiet
import Derived.Handy
namespace Go.Proofs.Ytifmdkcpbajdcab
open Go.RowKit Plain

/-- A profile's cells. -/
def stepCells : Prof → List Value
  | [] => []
  | s :: r => .int .i64 s.1 :: .int .i64 s.2 :: stepCells r

theorem stepCells_len (l : Prof) : (stepCells l).length = l.length * 2 := by
  induction l with
  | nil => rfl
  | cons s r ih => simp only [stepCells, List.length_cons, ih]; omega

theorem stepCells_get (l : Prof) : ∀ j, j < l.length → (stepCells l)[2 * j]? = some (.int .i64 (l.getD j (0, 0)).1) ∧ (stepCells l)[2 * j + 1]? = some (.int .i64 (l.getD j (0, 0)).2) := by
  induction l with
  | nil => intro j hj; simp at hj
  | cons s r ih =>
    intro j hj
    cases j with
    | zero => simp [stepCells]
    | succ j =>
      obtain ⟨h1, h2⟩ := ih j (by simpa using hj)
      rw [show 2 * (j + 1) = 2 * j + 1 + 1 by omega]
      simp only [stepCells, List.getElem?_cons_succ, List.getD_cons_succ]
      exact ⟨h1, h2⟩

/-- Where a profile lies. -/
theorem steps_at {w : World} {A : Option Addr} {l : Prof} (h : Sl w 2 A l.length (stepCells l)) (hl : 0 < l.length) :
    ∃ b off, A = some ⟨b, off, none⟩ ∧ b < w.heap.size ∧
      ∀ j, j < l.length → w.cell? ⟨b, off + j * 2, none⟩ = some (.int .i64 (l.getD j (0, 0)).1) ∧ w.cell? ⟨b, off + j * 2 + 1, none⟩ = some (.int .i64 (l.getD j (0, 0)).2) := by
  obtain ⟨b, off, e, hc⟩ := h.2 (by omega)
  obtain ⟨b', off', e', hlt⟩ := h.lt (by omega)
  rw [e] at e'
  injection e' with e'
  injection e' with e1 e2
  subst e1
  refine ⟨b, off, e, hlt, fun j hj => ?_⟩
  obtain ⟨g1, g2⟩ := stepCells_get l j hj
  rw [show off + j * 2 + 1 = off + (2 * j + 1) by omega, show off + j * 2 = off + 2 * j by omega, hc _ (by omega), hc _ (by omega)]
  exact ⟨g1, g2⟩

theorem foldl_take_succ {α β : Type} (f : β → α → β) (x : β) (d : α) (l : List α) (k : Nat) (hk : k < l.length) :
    (l.take (k + 1)).foldl f x = f ((l.take k).foldl f x) (l.getD k d) := by
  rw [List.take_succ_eq_append_getElem hk, List.foldl_append, List.getD_eq_getElem?_getD, List.getElem?_eq_getElem hk]; rfl

def atTo (l : Prof) (t : Int) (k : Nat) : Int := (l.take k).foldl (fun n s => if s.1 ≤ t ∧ t < 300 then s.2 else n) 0

theorem atTo_succ (l : Prof) (t : Int) (k : Nat) (hk : k < l.length) : atTo l t (k + 1) = if (l.getD k (0, 0)).1 ≤ t ∧ t < 300 then (l.getD k (0, 0)).2 else atTo l t k :=
  foldl_take_succ _ 0 (0, 0) l k hk

theorem goodB_no {l : Prof} {k : Nat} (hk : k < l.length) (h : okAt l k = false) : goodB l = false := by
  simp only [goodB, Bool.and_eq_false_iff, List.all_eq_false, List.mem_range]
  exact .inr ⟨k, hk, by simp [h]⟩

theorem goodB_yes {l : Prof} (h : ∀ j, j < l.length → okAt l j = true) : goodB l = decide (0 < l.length) := by
  simp only [goodB]
  rw [List.all_eq_true.2 fun j hj => h j (List.mem_range.1 hj), Bool.and_true]

theorem ok_bad {l : Prof} {k : Nat} (h : (l.getD k (0, 0)).2 < 0 ∨ 16 < (l.getD k (0, 0)).2 ∨ 300 ≤ (l.getD k (0, 0)).1) : okAt l k = false := by
  simp only [okAt, Bool.and_eq_false_iff, decide_eq_false_iff_not]
  rcases h with h | h | h
  · exact .inl (.inl (.inl (by omega)))
  · exact .inl (.inl (.inr (by omega)))
  · exact .inl (.inr (by omega))
theorem ok_zero (l : Prof) : okAt l 0 = (decide (0 ≤ (l.getD 0 (0, 0)).2) && decide ((l.getD 0 (0, 0)).2 ≤ 16) && decide ((l.getD 0 (0, 0)).1 < 300) && decide ((l.getD 0 (0, 0)).1 = 0)) := rfl
theorem ok_succ (l : Prof) (k : Nat) : okAt l (k + 1) = (decide (0 ≤ (l.getD (k + 1) (0, 0)).2) && decide ((l.getD (k + 1) (0, 0)).2 ≤ 16) && decide ((l.getD (k + 1) (0, 0)).1 < 300) &&
    (decide ((l.getD k (0, 0)).1 < (l.getD (k + 1) (0, 0)).1) && decide ((l.getD k (0, 0)).2 ≠ (l.getD (k + 1) (0, 0)).2))) := rfl
theorem ok_more {l : Prof} {k : Nat} (h : ∀ j, j < k → okAt l j = true) (hk : okAt l k = true) : ∀ j, j < k + 1 → okAt l j = true := fun j hj => by
  by_cases e : j = k
  · rw [e]; exact hk
  · exact h j (by omega)

set_option maxHeartbeats 20000000 in
theorem good_any (l : Prof) (A : Option Addr) (c : Nat) (w : World) (h : Sl w 2 A l.length (stepCells l)) (hm : l.length ≤ maxLen) :
    Calls Try.prog 55 #[.slice A l.length c] w fun e w' => e = .returned (.bool (goodB l)) ∧ Below w.heap.size w w' := by
  unfold maxLen at hm
  go_enter Try.func55, Try.ntmps55
  go_wp2_with fail
  go_loopw [7] (fun i wr => ∃ k : Nat, k ≤ l.length ∧ i = .int .i64 k ∧ (∀ j, j < k → okAt l j = true) ∧ Below w.heap.size w wr) (fun i _ => l.length - (intOf i).toNat)
  case atStart => exact ⟨0, Nat.zero_le _, rfl, fun j hj => absurd hj (by omega), Below.refl _ _⟩
  case round =>
    obtain ⟨k, hk, rfl, hok, hb⟩ := hrel
    by_cases hlt : k < l.length
    · have hsl := h.below hb
      obtain ⟨b, off, rfl, hbl, hcells⟩ := steps_at hsl (by omega)
      obtain ⟨c1, c2⟩ := hcells k hlt
      have HNO := Lib.hid (@goodB_no l k hlt)
      have HBAD := Lib.hid (@ok_bad l k)
      have HM := Lib.hid (@ok_more l k hok)
      clear hok hsl h
      by_cases e1 : (l.getD k (0, 0)).2 < 0
      · have HF := Lib.hid (HNO.out (HBAD.out (.inl e1)))
        clear hcells HM HBAD HNO
        generalize (l.getD k (0, 0)).1 = x at c1
        generalize (l.getD k (0, 0)).2 = y at c2 e1
        go_wp2_with fail
        go_quiet (fail)
        go_wp2_with fail
        go_ret
        exact ⟨ret_bool HF.out.symm, below_drewN (hb.alloc hb.size _) _⟩
      · by_cases e2 : 16 < (l.getD k (0, 0)).2
        · have HF := Lib.hid (HNO.out (HBAD.out (.inr (.inl e2))))
          clear hcells HM HBAD HNO
          generalize (l.getD k (0, 0)).1 = x at c1
          generalize (l.getD k (0, 0)).2 = y at c2 e1 e2
          have d1 : decide (y < 0) = false := by simpa using e1
          go_wp2_with fail
          go_quiet (fail)
          go_wp2_with fail
          go_ret
          exact ⟨ret_bool HF.out.symm, below_drewN (hb.alloc hb.size _) _⟩
        · by_cases e3 : 300 ≤ (l.getD k (0, 0)).1
          · have HF := Lib.hid (HNO.out (HBAD.out (.inr (.inr e3))))
            clear hcells HM HBAD HNO
            generalize (l.getD k (0, 0)).1 = x at c1 e3
            generalize (l.getD k (0, 0)).2 = y at c2 e1 e2
            have d1 : decide (y < 0) = false := by simpa using e1
            have d2 : decide (16 < y) = false := by simpa using e2
            go_wp2_with fail
            go_quiet (fail)
            go_wp2_with fail
            go_ret
            exact ⟨ret_bool HF.out.symm, below_drewN (hb.alloc hb.size _) _⟩
          · cases k with
            | zero =>
              have HK := Lib.hid (ok_zero l)
              clear hcells HBAD
              generalize (l.getD 0 (0, 0)).1 = x at c1 e3 HK
              generalize (l.getD 0 (0, 0)).2 = y at c2 e1 e2 HK
              simp only [Nat.zero_mul, Nat.add_zero] at c1 c2
              have d1 : decide (y < 0) = false := by simpa using e1
              have d2 : decide (16 < y) = false := by simpa using e2
              have d3 : decide (300 ≤ x) = false := by simpa using e3
              by_cases e4 : (x != 0) = true
              · have HF := Lib.hid (HNO.out (by rw [HK.out]; simp at e4; simp [e4]))
                clear HM HK HNO
                go_wp2_with fail
                go_quiet (fail)
                go_wp2_with fail
                go_ret
                exact ⟨ret_bool HF.out.symm, below_drewN (hb.alloc hb.size _) _⟩
              · have e4 : (x != 0) = false := by simpa using e4
                have HT := Lib.hid (HM.out (by rw [HK.out]; simp at e4; simp; omega))
                clear HM HK HNO
                go_wp2_with fail
                go_quiet (fail)
                go_wp2_with fail
                go_roundw
                case rel => exact ⟨1, hlt, by go_num, HT.out, below_drewN (hb.alloc hb.size _) _⟩
                case measure => simp [intOf] <;> omega
            | succ k =>
              have HK := Lib.hid (ok_succ l k)
              obtain ⟨c3, c4⟩ := hcells k (by omega)
              clear hcells HBAD
              generalize (l.getD (k + 1) (0, 0)).1 = x at c1 e3 HK
              generalize (l.getD (k + 1) (0, 0)).2 = y at c2 e1 e2 HK
              generalize (l.getD k (0, 0)).1 = x' at c3 HK
              generalize (l.getD k (0, 0)).2 = y' at c4 HK
              have d1 : decide (y < 0) = false := by simpa using e1
              have d2 : decide (16 < y) = false := by simpa using e2
              have d3 : decide (300 ≤ x) = false := by simpa using e3
              have hk1 : ((k : Int) + 1 == 0) = false := by rw [beq_eq_false_iff_ne]; omega
              have hw1 : IntKind.i64.wrap (k : Int) = (k : Int) := IntWalk.i64_in _ (by omega)
              by_cases e5 : x ≤ x'
              · have HF := Lib.hid (HNO.out (by rw [HK.out]; simp; omega))
                clear HM HK HNO
                go_wp2_with fail
                go_quiet (fail)
                go_wp2_with fail
                go_ret
                exact ⟨ret_bool HF.out.symm, below_drewN (hb.alloc hb.size _) _⟩
              · have d5 : decide (x ≤ x') = false := by simpa using e5
                by_cases e6 : (y' == y) = true
                · have HF := Lib.hid (HNO.out (by rw [HK.out]; simp at e6; simp [e6]))
                  clear HM HK HNO
                  go_wp2_with fail
                  go_quiet (fail)
                  go_wp2_with fail
                  go_ret
                  exact ⟨ret_bool HF.out.symm, below_drewN (hb.alloc hb.size _) _⟩
                · have e6 : (y' == y) = false := by simpa using e6
                  have HT := Lib.hid (HM.out (by rw [HK.out]; simp at e6; simp [e6]; omega))
                  clear HM HK HNO
                  go_wp2_with fail
                  go_quiet (fail)
                  go_wp2_with fail
                  go_roundw
                  case rel => exact ⟨k + 1 + 1, hlt, by go_num, HT.out, below_drewN (hb.alloc hb.size _) _⟩
                  case measure => simp [intOf] <;> omega
    · obtain rfl : k = l.length := by omega
      have HF := Lib.hid (goodB_yes hok)
      clear hok
      go_wp2_with fail
      go_ret
      exact ⟨ret_bool (by rw [HF.out]), hb⟩
end Go.Proofs.Ytifmdkcpbajdcab
