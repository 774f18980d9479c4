/- Walks: the steps of what is free time by time. -/
import Derived.Test.YtifmdkcpbajdcaaRef3
import Derived.Test.YtifmdkcpbajdcaaAppend
namespace Go.Proofs.Ytifmdkcpbajdcaa
open Go.RowKit Go.Proofs Plain

theorem Arr.grown {w w' : World} {g : Nat} {fs : List Int} {row : Option Nat} (h : Arr w g fs) (hg : w.grownBy w' row) (hne : some g ≠ row) : Arr w' g fs := ⟨h.len, (hg.block g h.lt hne).trans h.at_⟩

theorem stepsTo_len (g : List Int) : ∀ k, (stepsTo g k).length ≤ k
  | 0 => Nat.le_refl _
  | k + 1 => by
    have := stepsTo_len g k
    simp only [stepsTo]
    split <;> simp <;> omega

theorem stepsTo_more {g : List Int} {k : Nat} (h : k = 0 ∨ g.getD k 0 ≠ g.getD (k - 1) 0) : stepsTo g (k + 1) = stepsTo g k ++ [((k : Int), g.getD k 0)] := by
  simp only [stepsTo]; rw [if_pos h]
theorem stepsTo_same {g : List Int} {k : Nat} (h : ¬ (k = 0 ∨ g.getD k 0 ≠ g.getD (k - 1) 0)) : stepsTo g (k + 1) = stepsTo g k := by
  simp only [stepsTo]; rw [if_neg h, List.append_nil]

theorem wpList_index_is {ops : Array Oper} {rest : List Oper} {o : Oper} {a : Act} {w : World} {Q : Exit → Act → World → Prop} {x y : Operand} {fs : List Int} {i : Nat} {v : Int} (hg : o.guard = none) (ho : o.op = .index 25 x y) (hx : a.eval x = .agg (arr fs)) (hy : a.eval y = .int .i64 i) (hl : fs.length = 300) (hi : i < 300) (hv : fs.getD i 0 = v)
    (h : wpList Try.prog ops Q rest (a.put o.dst (.int .i64 v)) w) : wpList Try.prog ops Q (o :: rest) a w := by
  subst hv; exact wpList_index_arr hg ho hx hy hl hi h

set_option maxRecDepth 100000 in
set_option maxHeartbeats 20000000 in
theorem steps_any (fs : List Int) (w : World) (hl : fs.length = 300) :
    Calls Try.prog 24 #[.agg (arr fs)] w (RetSteps (stepsTo fs 300) w) := by
  go_enter Try.func24, Try.ntmps24
  go_wp2_with (first
    | (refine wpList_box_arr rfl rfl (by first | rfl | simp [Act.eval, Act.put]) hl ?_; intro wA gA a1 a2 hA hbA)
    | (refine wpList_load_arr rfl rfl (by first | rfl | simp [Act.eval, Act.put]) hA ?_))
  have hsA := hbA.size
  go_loopw [7, 3] (fun i v wr => ∃ k : Nat, i = .int .i64 k ∧ k ≤ 300 ∧ OwnS wr wA.heap.size v (stepsTo fs k) ∧ wA.heap.size ≤ wr.heap.size ∧ Arr wr gA fs ∧ Below w.heap.size w wr) (fun i _ _ => 300 - (intOf i).toNat)
  case atStart => exact ⟨0, rfl, by omega, ⟨rfl, .inl ⟨rfl, rfl⟩⟩, Nat.le_refl _, hA, hbA⟩
  case round =>
    clear hA hbA
    obtain ⟨k, rfl, hk, hown, hsz, hA, hb⟩ := hrel
    have hlen := stepsTo_len fs k
    have ho := hown.alloc (.cells #[.int .i64 k, .int .i64 (fs.getD k 0)] 32)
    by_cases hlt : k < 300
    · have HE := Lib.hid (@stepsTo_more fs k)
      have HS := Lib.hid (@stepsTo_same fs k)
      by_cases hk0 : k = 0
      · subst hk0
        have HM := Lib.hid (HE.out (.inl rfl))
        obtain ⟨x, hx⟩ : ∃ x, fs.getD 0 0 = x := ⟨_, rfl⟩
        rw [hx] at HM ho
        have HX := Lib.hid hx
        clear hx HE HS
        go_wp2_with (first
          | (refine wpList_index_is (i := 0) rfl rfl (by first | rfl | simp [Act.eval, Act.put]) (by first | rfl | simp [Act.eval, Act.put]) hl (by omega) HX.out ?_)
          | (at_builtin; refine wpList_append_step rfl _ _ rfl wA.heap.size _ _ rfl ho wr.heap.size 1 0 x rfl (heap_alloc_new wr _) (by omega) (by simp; omega) ?_; intro v' w' ho' hg'))
        go_roundw
        case rel => exact ⟨1, by go_num, by omega, by rw [HM.out]; exact ho', Nat.le_trans (by simp; omega) hg'.size, (hA.alloc _).grown hg' (fun e => by have := own_block ho _ e.symm; omega), grown_below (hb.alloc hb.size _) hg' ho hsA (by simp; have := hb.size; omega)⟩
        case measure => simp [intOf] <;> omega
      · obtain ⟨j, rfl⟩ : ∃ j, k = j + 1 := ⟨k - 1, by omega⟩
        have c1 := hA.cell j (by omega)
        have hw1 : IntKind.i64.wrap (j : Int) = (j : Int) := IntWalk.i64_in _ (by omega)
        have hk1 : (((j : Int) + 1) == 0) = false := by rw [beq_eq_false_iff_ne]; omega
        simp only [Nat.add_sub_cancel] at HE HS
        obtain ⟨x, hx⟩ : ∃ x, fs.getD (j + 1) 0 = x := ⟨_, rfl⟩
        rw [hx] at HE HS ho
        have HX := Lib.hid hx
        clear hx
        generalize fs.getD j 0 = y at c1 HE HS
        rw [Int.natCast_add, Int.natCast_one] at ho
        by_cases hxy : (x != y) = true
        · have HM := Lib.hid (HE.out (.inr (by simpa using hxy)))
          clear HE HS
          go_wp2_with (first
            | (refine wpList_index_is (i := j + 1) rfl rfl (by first | rfl | simp [Act.eval, Act.put]) (by first | rfl | simp [Act.eval, Act.put]) hl (by omega) HX.out ?_)
            | (at_builtin; refine wpList_append_step rfl _ _ rfl wA.heap.size _ _ rfl ho wr.heap.size 1 ((j : Int) + 1) x rfl (heap_alloc_new wr _) (by omega) (by simp; omega) ?_; intro v' w' ho' hg'))
          go_roundw
          case rel => exact ⟨j + 1 + 1, by go_num, by omega, by rw [HM.out]; exact ho', Nat.le_trans (by simp; omega) hg'.size, (hA.alloc _).grown hg' (fun e => by have := own_block ho _ e.symm; omega), grown_below (hb.alloc hb.size _) hg' ho hsA (by simp; have := hb.size; omega)⟩
          case measure => simp [intOf] <;> omega
        · have hxy : (x != y) = false := by simpa using hxy
          have HM := Lib.hid (HS.out (by simp at hxy; simp [hxy]))
          clear HE HS
          go_wp2_with (refine wpList_index_is (i := j + 1) rfl rfl (by first | rfl | simp [Act.eval, Act.put]) (by first | rfl | simp [Act.eval, Act.put]) hl (by omega) HX.out ?_)
          go_roundw
          case rel => exact ⟨j + 1 + 1, by go_num, by omega, by rw [HM.out]; exact hown, hsz, hA, hb⟩
          case measure => simp [intOf] <;> omega
    · obtain rfl : k = 300 := by omega
      obtain ⟨A, c, hv⟩ := own_form hown
      subst hv
      have HO := Lib.hid (Sl.of_own hown)
      go_wp2_with fail
      go_ret
      exact ⟨A, c, rfl, HO.out, hb⟩
end Go.Proofs.Ytifmdkcpbajdcaa
