/- Walks: what is free time by time, out of a profile. -/
import Derived.Test.YtifmdkcpbajdcaaArr
namespace Go.Proofs.Ytifmdkcpbajdcaa
open Go.RowKit Go.Proofs Plain

set_option maxHeartbeats 400000 in
theorem within_any (n lo hi : Int) (w : World) :
    Calls Try.prog 43 #[.int .i64 n, .int .i64 lo, .int .i64 hi] w fun e w' => e = .returned (.bool (decide (lo ≤ n) && decide (n ≤ hi))) ∧ w' = w := by
  by_cases h : lo ≤ n
  all_goals
    go_enter Try.func43, Try.ntmps43
    go_wp2_with fail
    go_ret
    exact ⟨ret_bool (by rw [Bool.eq_iff_iff]; simp; omega), rfl⟩

theorem within_is {n lo hi : Int} {b : Bool} (w : World) (h : (decide (lo ≤ n) && decide (n ≤ hi)) = b) :
    Calls Try.prog 43 #[.int .i64 n, .int .i64 lo, .int .i64 hi] w fun e w' => e = .returned (.bool b) ∧ w' = w := by
  subst h; exact within_any n lo hi w

/-- What a table says of a profile. -/
def RetFree (l : Prof) (w : World) (e : Ending) (w' : World) : Prop :=
  ∃ fs : List Int, fs.length = 300 ∧ (goodB l = true → ∀ u : Nat, u < 300 → fs.getD u 0 = val l u) ∧ e = .returned (.tuple #[.agg (arr fs), .bool (goodB l)]) ∧ Below w.heap.size w w'

theorem goodB_nil : goodB [] = false := rfl
theorem goodB_head {l : Prof} (h : (l.getD 0 (0, 0)).1 ≠ 0) : goodB l = false := by
  cases l with
  | nil => rfl
  | cons s r =>
    refine goodB_no (k := 0) (by simp) ?_
    rw [ok_zero]; simp at h; simp [h]

theorem ok_nonneg {l : Prof} : ∀ (k : Nat), (∀ j, j < k + 1 → okAt l j = true) → 0 ≤ (l.getD k (0, 0)).1 ∧ (l.getD k (0, 0)).1 < 300 := by
  intro k
  induction k with
  | zero =>
    intro h
    have := h 0 (by omega)
    rw [ok_zero] at this
    simp at this
    simp; omega
  | succ k ih =>
    intro h
    have h1 := ih fun j hj => h j (by omega)
    have := h (k + 1) (by omega)
    rw [ok_succ] at this
    simp only [Bool.and_eq_true, decide_eq_true_eq] at this
    omega

theorem getD_set' (fs : List Int) (i j : Nat) (v : Int) (hi : i < fs.length) : (fs.set i v).getD j 0 = if j = i then v else fs.getD j 0 := by
  simp only [List.getD_eq_getElem?_getD, List.getElem?_set]
  by_cases e : i = j
  · subst e; simp [hi]
  · rw [if_neg e, if_neg (fun h => e h.symm)]

theorem zeros_get (u : Nat) : zeros.getD u 0 = 0 := by
  simp only [zeros, List.getD_eq_getElem?_getD, List.getElem?_replicate]; split <;> rfl

theorem atTo_end {l : Prof} (h : goodB l = true) (u : Nat) (hu : u < 300) : atTo l u l.length = val l u := by
  have := atL_good ((goodB_iff l).1 h) (u : Int)
  rw [if_pos ⟨by omega, by omega⟩] at this
  rw [← this, atTo, List.take_length]; rfl

/-- One more step filled in. -/
def filled (fs : List Int) (x y : Int) (t : Nat) (gs : List Int) : Prop := ∀ u : Nat, u < 300 → gs.getD u 0 = if x ≤ (u : Int) ∧ u < t then y else fs.getD u 0
theorem filled.start (fs : List Int) {x : Int} (y : Int) (h : 0 ≤ x) : filled fs x y x.toNat fs := fun u _ => by rw [if_neg]; omega
theorem filled.next {fs gs : List Int} {x y : Int} {t : Nat} (h : filled fs x y t gs) (hl : gs.length = 300) (ht : t < 300) (hx : x ≤ t) : filled fs x y (t + 1) (gs.set t y) := fun u hu => by
  rw [getD_set' _ _ _ _ (by omega)]
  by_cases e : u = t
  · subst e; rw [if_pos rfl, if_pos ⟨hx, by omega⟩]
  · rw [if_neg e, h u hu]
    by_cases c : x ≤ (u : Int) ∧ u < t
    · rw [if_pos c, if_pos ⟨c.1, by omega⟩]
    · rw [if_neg c, if_neg (by omega)]

set_option maxRecDepth 100000 in
set_option maxHeartbeats 20000000 in
theorem freeOf_any (l : Prof) (A : Option Addr) (c : Nat) (w : World) (h : Sl w 2 A l.length (stepCells l)) (hm : l.length ≤ maxLen) :
    Calls Try.prog 12 #[.slice A l.length c] w (RetFree l w) := by
  unfold maxLen at hm
  by_cases h0 : l.length = 0
  · obtain rfl := List.eq_nil_of_length_eq_zero h0
    go_enter Try.func12, Try.ntmps12
    go_wp2_with (first
      | (have _ := hAlaid; refine wpList_alloc_arr rfl rfl ?_; intro wB gB b1 b2 hB hbB; have hA2 := hA.below hbB a2)
      | (refine wpList_alloc_arr rfl rfl ?_; intro wA gA a1 a2 hA hbA; have hAlaid := True.intro)
      | (refine wpList_load_arr rfl rfl (by first | rfl | simp [Act.eval, Act.put]) hB ?_)
      | (refine wpList_store_arr rfl rfl (by first | rfl | simp [Act.eval, Act.put]) (by first | rfl | simp [Act.eval, Act.put]) hA2 zeros_len ?_; intro w3 hA3 hr3))
    refine bodyPost_ret (results_arr rfl _ _ gA _ rfl hA3) rfl ?_
    exact ⟨_, hA3.len, fun hg => (by rw [goodB_nil] at hg; cases hg), (by rw [goodB_nil]; rfl), hbA.trans ((hbB.mono hbA.size).trans (hr3.below a1))⟩
  · have h0' : ((l.length : Int) == 0) = false := by rw [beq_eq_false_iff_ne]; omega
    obtain ⟨b, off, rfl, hbl, hcells⟩ := steps_at h (by omega)
    obtain ⟨c1, _⟩ := hcells 0 (by omega)
    by_cases e0 : ((l.getD 0 (0, 0)).1 != 0) = true
    · have HF := Lib.hid (goodB_head (l := l) (by simpa using e0))
      clear hcells h
      generalize (l.getD 0 (0, 0)).1 = x at c1 e0
      simp only [Nat.zero_mul, Nat.add_zero] at c1
      go_enter Try.func12, Try.ntmps12
      go_wp2_with (first
      | (have _ := hAlaid; refine wpList_alloc_arr rfl rfl ?_; intro wB gB b1 b2 hB hbB; have hA2 := hA.below hbB a2; have c2 := ((hbB.cell (p := ⟨b, off, none⟩) (show b < _ by have := hbA.size; omega)).trans (hbA.cell (p := ⟨b, off, none⟩) (show b < _ by omega))).trans c1)
      | (refine wpList_alloc_arr rfl rfl ?_; intro wA gA a1 a2 hA hbA; have hAlaid := True.intro)
      | (refine wpList_load_arr rfl rfl (by first | rfl | simp [Act.eval, Act.put]) hB ?_)
      | (refine wpList_store_arr rfl rfl (by first | rfl | simp [Act.eval, Act.put]) (by first | rfl | simp [Act.eval, Act.put]) hA2 zeros_len ?_; intro w3 hA3 hr3))
      refine bodyPost_ret (results_arr rfl _ _ gA _ rfl hA3) rfl ?_
      exact ⟨_, hA3.len, fun hg => (by rw [HF.out] at hg; cases hg), (by rw [HF.out]; rfl), hbA.trans ((hbB.mono hbA.size).trans (hr3.below a1))⟩
    · have e0' : ((l.getD 0 (0, 0)).1 != 0) = false := by simpa using e0
      have hx0 : (l.getD 0 (0, 0)).1 = 0 := by simpa using e0
      clear e0
      generalize hx : (l.getD 0 (0, 0)).1 = x at c1 e0' hx0
      have HX0 := Lib.hid (hx.trans hx0)
      have HC := Lib.hid hcells
      clear hx hx0 hcells
      simp only [Nat.zero_mul, Nat.add_zero] at c1
      go_enter Try.func12, Try.ntmps12
      go_wp2_with (first
      | (have _ := hAlaid; refine wpList_alloc_arr rfl rfl ?_; intro wB gB b1 b2 hB hbB; have hA2 := hA.below hbB a2; have hbS := hbA.trans (hbB.mono hbA.size); have c2 := ((hbB.cell (p := ⟨b, off, none⟩) (show b < _ by have := hbA.size; omega)).trans (hbA.cell (p := ⟨b, off, none⟩) (show b < _ by omega))).trans c1)
      | (refine wpList_alloc_arr rfl rfl ?_; intro wA gA a1 a2 hA hbA; have hAlaid := True.intro))
      have hgAB : gA < gB := by omega
      have hBlt := hB.lt
      go_loopw [21] (fun i wr => ∃ (k : Nat) (fs : List Int), k ≤ l.length ∧ i = .int .i64 k ∧ (∀ j, j < k → okAt l j = true) ∧ (∀ u : Nat, u < 300 → fs.getD u 0 = atTo l u k) ∧ Arr wr gB fs ∧ Arr wr gA zeros ∧ Below w.heap.size w wr) (fun i _ => l.length - (intOf i).toNat)
      case atStart => exact ⟨0, zeros, Nat.zero_le _, rfl, fun j hj => absurd hj (by omega), fun u _ => zeros_get u, hB, hA2, hbS⟩
      case round =>
        clear c1 c2 hA hA2 hB hbA hbB hbS h
        obtain ⟨k, fs, hk, rfl, hok, hfs, hB, hA2, hb⟩ := hrel
        have hBw := hB.lt
        by_cases hlt : k < l.length
        · obtain ⟨d1, d2⟩ := HC.out k hlt
          have c1 := (hb.cell (p := ⟨b, off + k * 2, none⟩) hbl).trans d1
          have c2 := (hb.cell (p := ⟨b, off + k * 2 + 1, none⟩) hbl).trans d2
          clear d1 d2
          have hbl2 : b < wr.heap.size := by have := hb.size; omega
          have HNO := Lib.hid (@goodB_no l k hlt)
          have HBAD := Lib.hid (@ok_bad l k)
          have HM := Lib.hid (@ok_more l k hok)
          have HN := Lib.hid (@ok_nonneg l k)
          have HFS := Lib.hid (show ∀ gs : List Int, filled fs (l.getD k (0, 0)).1 (l.getD k (0, 0)).2 300 gs → ∀ u : Nat, u < 300 → gs.getD u 0 = atTo l u (k + 1) from fun gs hg u hu => by
            rw [hg u hu, atTo_succ l u k hlt, hfs u hu]
            by_cases cc : (l.getD k (0, 0)).1 ≤ (u : Int)
            · rw [if_pos ⟨cc, hu⟩, if_pos ⟨cc, by omega⟩]
            · rw [if_neg (fun h => cc h.1), if_neg (fun h => cc h.1)])
          clear hok hfs
          by_cases e1 : 0 ≤ (l.getD k (0, 0)).2 ∧ (l.getD k (0, 0)).2 ≤ 16
          · by_cases e3 : 300 ≤ (l.getD k (0, 0)).1
            · have HF := Lib.hid (HNO.out (HBAD.out (.inr (.inr e3))))
              clear HM HBAD HNO HN HFS
              generalize (l.getD k (0, 0)).1 = x at c1 e3
              generalize (l.getD k (0, 0)).2 = y at c2 e1
              have HB : (decide (0 ≤ y) && decide (y ≤ 16)) = true := by simpa using e1
              clear e1
              go_wp2_with fail
              go_quiet ((go_at_call 43; exact Calls.quiet_of_same (within_is _ HB)))
              go_wp2_with (first
                | (refine wpList_load_arr rfl rfl (by first | rfl | simp [Act.eval, Act.put]) ((hB.alloc _).drewN _) ?_)
                | (refine wpList_store_arr rfl rfl (by first | rfl | simp [Act.eval, Act.put]) (by first | rfl | simp [Act.eval, Act.put]) ((hA2.alloc _).drewN _) hB.len ?_; intro w3 hA3 hr3))
              refine bodyPost_ret (results_arr rfl _ _ gA _ rfl hA3) rfl ?_
              exact ⟨_, hA3.len, fun hg => (by rw [HF.out] at hg; cases hg), (by rw [HF.out]; rfl), (below_drewN (hb.alloc hb.size _) _).trans (hr3.below a1)⟩
            · cases k with
              | zero =>
                have HK := Lib.hid (ok_zero l)
                have HT0 := Lib.hid (show okAt l 0 = true by rw [HK.out]; simp only [Bool.and_eq_true, decide_eq_true_eq]; exact ⟨⟨e1, by omega⟩, HX0.out⟩)
                have HT := Lib.hid (HM.out HT0.out)
                have hx0 := (HN.out HT.out).1
                clear HBAD HM HNO HN HK
                generalize (l.getD 0 (0, 0)).1 = x at c1 e3 hx0 HFS
                generalize (l.getD 0 (0, 0)).2 = y at c2 e1 HFS
                simp only [Nat.zero_mul, Nat.add_zero] at c1 c2
                have HB : (decide (0 ≤ y) && decide (y ≤ 16)) = true := by simpa using e1
                clear e1
                have d3 : decide (300 ≤ x) = false := by simpa using e3
                go_wp2_with fail
                go_quiet ((go_at_call 43; exact Calls.quiet_of_same (within_is _ HB)))
                go_wp2_with fail
                go_loopw [7] (fun i wi => ∃ (t : Nat) (gs : List Int), i = .int .i64 t ∧ x ≤ t ∧ t ≤ 300 ∧ filled fs x y t gs ∧ Arr wi gB gs ∧ Arr wi gA zeros ∧ Below w.heap.size w wi ∧ wi.cell? ⟨wr.heap.size, 1, none⟩ = some (.int .i64 y)) (fun i _ => 300 - (intOf i).toNat)
                case atStart => exact ⟨x.toNat, fs, by rw [show ((x.toNat : Nat) : Int) = x by omega], by omega, by omega, filled.start fs y hx0, (hB.alloc _).drewN _, (hA2.alloc _).drewN _, below_drewN (hb.alloc hb.size _) _, by simp⟩
                case round =>
                  clear hB hA2 hb c1 c2
                  obtain ⟨t, gs, rfl, ht0, ht1, hfill, hB, hA2, hb, hy⟩ := hrel
                  by_cases hlt2 : t < 300
                  · have hc1 := hB.cell t hlt2
                    have hc2 := hB.frozen t
                    go_wp2_with fail
                    go_roundw
                    case rel => exact ⟨t + 1, gs.set t y, by go_num, by omega, by omega, hfill.next hB.len hlt2 ht0, hB.set t y, hA2.beside _ _ (by simp; omega), hb.setCell (by simp; omega) _, (by rw [(OneRow.of_cell _ _ _).cell _ _ (by simp; omega)]; exact hy)⟩
                    case measure => simp [intOf] <;> omega
                  · obtain rfl : t = 300 := by omega
                    go_wp2_with fail
                    go_roundw
                    case rel => exact ⟨1, gs, hlt, by go_num, HT.out, HFS.out gs hfill, hB, hA2, hb⟩
                    case measure => simp [intOf] <;> omega
              | succ k =>
                have HK := Lib.hid (ok_succ l k)
                obtain ⟨d3, d4⟩ := HC.out k (by omega)
                have c3 := (hb.cell (p := ⟨b, off + k * 2, none⟩) hbl).trans d3
                have c4 := (hb.cell (p := ⟨b, off + k * 2 + 1, none⟩) hbl).trans d4
                clear d3 d4 HBAD
                generalize (l.getD (k + 1) (0, 0)).1 = x at c1 e3 HK HFS HN
                generalize (l.getD (k + 1) (0, 0)).2 = y at c2 e1 HK HFS
                generalize (l.getD k (0, 0)).1 = x' at c3 HK
                generalize (l.getD k (0, 0)).2 = y' at c4 HK
                have HB : (decide (0 ≤ y) && decide (y ≤ 16)) = true := by simpa using e1
                have HE1 := Lib.hid e1
                clear e1
                have d3 : decide (300 ≤ x) = false := by simpa using e3
                have hk1 : decide (0 < (k : Int) + 1) = true := by simp
                have hw1 : IntKind.i64.wrap (k : Int) = (k : Int) := IntWalk.i64_in _ (by omega)
                by_cases e5 : x ≤ x'
                · have HF := Lib.hid (HNO.out (by rw [HK.out]; simp; omega))
                  clear HM HK HNO HN HFS
                  go_wp2_with fail
                  go_quiet ((go_at_call 43; exact Calls.quiet_of_same (within_is _ HB)))
                  go_wp2_with (first
                    | (refine wpList_load_arr rfl rfl (by first | rfl | simp [Act.eval, Act.put]) ((hB.alloc _).drewN _) ?_)
                    | (refine wpList_store_arr rfl rfl (by first | rfl | simp [Act.eval, Act.put]) (by first | rfl | simp [Act.eval, Act.put]) ((hA2.alloc _).drewN _) hB.len ?_; intro w3 hA3 hr3))
                  refine bodyPost_ret (results_arr rfl _ _ gA _ rfl hA3) rfl ?_
                  exact ⟨_, hA3.len, fun hg => (by rw [HF.out] at hg; cases hg), (by rw [HF.out]; rfl), (below_drewN (hb.alloc hb.size _) _).trans (hr3.below a1)⟩
                · have d5 : decide (x ≤ x') = false := by simpa using e5
                  by_cases e6 : (y == y') = true
                  · have HF := Lib.hid (HNO.out (by rw [HK.out]; simp at e6; simp [e6]))
                    clear HM HK HNO HN HFS
                    go_wp2_with fail
                    go_quiet ((go_at_call 43; exact Calls.quiet_of_same (within_is _ HB)))
                    go_wp2_with (first
                      | (refine wpList_load_arr rfl rfl (by first | rfl | simp [Act.eval, Act.put]) ((hB.alloc _).drewN _) ?_)
                      | (refine wpList_store_arr rfl rfl (by first | rfl | simp [Act.eval, Act.put]) (by first | rfl | simp [Act.eval, Act.put]) ((hA2.alloc _).drewN _) hB.len ?_; intro w3 hA3 hr3))
                    refine bodyPost_ret (results_arr rfl _ _ gA _ rfl hA3) rfl ?_
                    exact ⟨_, hA3.len, fun hg => (by rw [HF.out] at hg; cases hg), (by rw [HF.out]; rfl), (below_drewN (hb.alloc hb.size _) _).trans (hr3.below a1)⟩
                  · have e6 : (y == y') = false := by simpa using e6
                    have HT := Lib.hid (HM.out (by rw [HK.out]; have := HE1.out; simp at e6; simp; omega))
                    have hx0 := (HN.out HT.out).1
                    clear HM HK HNO HN HE1
                    go_wp2_with fail
                    go_quiet ((go_at_call 43; exact Calls.quiet_of_same (within_is _ HB)))
                    go_wp2_with fail
                    go_loopw [7] (fun i wi => ∃ (t : Nat) (gs : List Int), i = .int .i64 t ∧ x ≤ t ∧ t ≤ 300 ∧ filled fs x y t gs ∧ Arr wi gB gs ∧ Arr wi gA zeros ∧ Below w.heap.size w wi ∧ wi.cell? ⟨wr.heap.size, 1, none⟩ = some (.int .i64 y)) (fun i _ => 300 - (intOf i).toNat)
                    case atStart => exact ⟨x.toNat, fs, by rw [show ((x.toNat : Nat) : Int) = x by omega], by omega, by omega, filled.start fs y hx0, (hB.alloc _).drewN _, (hA2.alloc _).drewN _, below_drewN (hb.alloc hb.size _) _, by simp⟩
                    case round =>
                      clear hB hA2 hb c1 c2
                      obtain ⟨t, gs, rfl, ht0, ht1, hfill, hB, hA2, hb, hy⟩ := hrel
                      by_cases hlt2 : t < 300
                      · have hc1 := hB.cell t hlt2
                        have hc2 := hB.frozen t
                        go_wp2_with fail
                        go_roundw
                        case rel => exact ⟨t + 1, gs.set t y, by go_num, by omega, by omega, hfill.next hB.len hlt2 ht0, hB.set t y, hA2.beside _ _ (by simp; omega), hb.setCell (by simp; omega) _, (by rw [(OneRow.of_cell _ _ _).cell _ _ (by simp; omega)]; exact hy)⟩
                        case measure => simp [intOf] <;> omega
                      · obtain rfl : t = 300 := by omega
                        go_wp2_with fail
                        go_roundw
                        case rel => exact ⟨k + 1 + 1, gs, hlt, by go_num, HT.out, HFS.out gs hfill, hB, hA2, hb⟩
                        case measure => simp [intOf] <;> omega
          · have HF := Lib.hid (HNO.out (HBAD.out (by omega)))
            clear HM HBAD HNO HN HFS
            generalize (l.getD k (0, 0)).1 = x at c1
            generalize (l.getD k (0, 0)).2 = y at c2 e1
            have HB : (decide (0 ≤ y) && decide (y ≤ 16)) = false := by simp; omega
            clear e1
            go_wp2_with fail
            go_quiet ((go_at_call 43; exact Calls.quiet_of_same (within_is _ HB)))
            go_wp2_with (first
              | (refine wpList_load_arr rfl rfl (by first | rfl | simp [Act.eval, Act.put]) ((hB.alloc _).drewN _) ?_)
              | (refine wpList_store_arr rfl rfl (by first | rfl | simp [Act.eval, Act.put]) (by first | rfl | simp [Act.eval, Act.put]) ((hA2.alloc _).drewN _) hB.len ?_; intro w3 hA3 hr3))
            refine bodyPost_ret (results_arr rfl _ _ gA _ rfl hA3) rfl ?_
            exact ⟨_, hA3.len, fun hg => (by rw [HF.out] at hg; cases hg), (by rw [HF.out]; rfl), (below_drewN (hb.alloc hb.size _) _).trans (hr3.below a1)⟩
        · obtain rfl : k = l.length := by omega
          have HF := Lib.hid (goodB_yes hok)
          clear hok
          go_wp2_with (first
            | (refine wpList_load_arr rfl rfl (by first | rfl | simp [Act.eval, Act.put]) (hB) ?_)
            | (refine wpList_store_arr rfl rfl (by first | rfl | simp [Act.eval, Act.put]) (by first | rfl | simp [Act.eval, Act.put]) (hA2) hB.len ?_; intro w3 hA3 hr3))
          refine bodyPost_ret (results_arr rfl _ _ gA _ rfl hA3) rfl ?_
          have hgood : goodB l = true := by rw [HF.out]; simp; omega
          exact ⟨_, hA3.len, fun hg u hu => (hfs u hu).trans (atTo_end hg u hu), (by rw [hgood]; rfl), hb.trans (hr3.below a1)⟩
end Go.Proofs.Ytifmdkcpbajdcaa
