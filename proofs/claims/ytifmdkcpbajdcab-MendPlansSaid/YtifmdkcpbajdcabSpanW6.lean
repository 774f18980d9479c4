/- Walks: neighbours that are alike become one. -/
import Derived.Test.YtifmdkcpbajdcabSpanW5
import Derived.Deep.RegionHeld3
namespace Go.Proofs.Ytifmdkcpbajdcab
open Go.RowKit Go.Proofs Plain

theorem cells_set (l : Prof) : ∀ (k : Nat) (s : Stp), k < l.length → ((stepCells l).set (k * 2) (.int .i64 s.1)).set (k * 2 + 1) (.int .i64 s.2) = stepCells (l.set k s) := by
  induction l with
  | nil => intro k s h; simp at h
  | cons q l ih =>
    intro k s h
    cases k with
    | zero => simp [stepCells]
    | succ k =>
      rw [show (k + 1) * 2 = k * 2 + 1 + 1 by omega, show k * 2 + 1 + 1 + 1 = (k * 2 + 1) + 1 + 1 by omega]
      simp only [stepCells, List.set_cons_succ]
      rw [ih k s (by simpa using h)]

/-- A step stored into a row of one's own. -/
theorem owns_set {w : World} {base g c : Nat} {l : Prof} (h : Owns w base (some ⟨g, 0, none⟩) c l) (k : Nat) (s : Stp) (hk : k < l.length) :
    Owns ((w.setCell ⟨g, k * 2, none⟩ (.int .i64 s.1)).setCell ⟨g, k * 2 + 1, none⟩ (.int .i64 s.2)) base (some ⟨g, 0, none⟩) c (l.set k s) := by
  have h1 := (h.stored (k * 2) (.int .i64 s.1)).1
  have h2 := (h1.stored (k * 2 + 1) (.int .i64 s.2)).1
  rw [cells_set l k s hk] at h2
  unfold Owns
  rw [List.length_set]
  exact h2

theorem owns_cells {w : World} {base g c : Nat} {l : Prof} (h : Owns w base (some ⟨g, 0, none⟩) c l) (j : Nat) (hj : j < l.length) :
    w.cell? ⟨g, j * 2, none⟩ = some (.int .i64 (l.getD j (0, 0)).1) ∧ w.cell? ⟨g, j * 2 + 1, none⟩ = some (.int .i64 (l.getD j (0, 0)).2) := by
  obtain ⟨b', off', e, _, hcells⟩ := steps_at (owns_sl h) (by omega)
  injection e with e
  injection e with e1 e2
  subst e1; subst e2
  have := hcells j hj
  simpa only [Nat.zero_add] using this

/-- What the inner rounds hold: behind m steps looked at, so many are kept. -/
def Inner (l : Prof) (base g c : Nat) (w : World) (k kk m : Nat) (M : Prof) (wr : World) : Prop :=
  M.length = l.length ∧ Owns wr base (some ⟨g, 0, none⟩) c M ∧ M.take kk = tidyL (l.take (k + m + 1)) ∧ (∀ j, k + m ≤ j → j < l.length → M.getD j (0, 0) = l.getD j (0, 0)) ∧ Below base w wr

set_option maxRecDepth 100000 in
set_option maxHeartbeats 4000000 in
theorem compact_any (l : Prof) (g c base : Nat) (w : World) (hown : Owns w base (some ⟨g, 0, none⟩) c l) (_ : base ≤ w.heap.size) (hm : l.length ≤ 1000) (hpos : 0 < l.length) :
    Calls Try.prog 83 #[.slice (some ⟨g, 0, none⟩) l.length c, .func (.func 84) #[] #[]] w (RetOwn base (tidyL l) w) := by
  obtain ⟨g', e, hbg, hgw, hlc, hcm, _⟩ := owns_at hown hpos
  injection e with e
  injection e with e1 _
  subst e1
  unfold maxLen at hcm
  by_cases h2 : l.length < 2
  · have HF := Lib.hid (tidy_one l (by omega))
    go_enter Try.func83, Try.ntmps83
    go_wp2_with fail
    go_ret
    exact ⟨_, c, by rw [HF.out]; rfl, by rw [HF.out]; exact hown, Below.refl _ _⟩
  · have d10 : decide ((l.length : Int) < 2) = false := by simp; omega
    go_enter Try.func83, Try.ntmps83
    go_wp2_with fail
    go_loopw [5] (fun i wr => ∃ k : Nat, k + 1 ≤ l.length ∧ i = .int .i64 ((k + 1 : Nat) : Int) ∧ tidyL (l.take (k + 1)) = l.take (k + 1) ∧ Owns wr base (some ⟨g, 0, none⟩) c l ∧ Below base w wr) (fun i _ => l.length - (intOf i).toNat)
    case atStart => exact ⟨0, hpos, rfl, tidy_one _ (by rw [List.length_take]; omega), hown, Below.refl _ _⟩
    case round =>
      obtain ⟨k, hk, rfl, ht, ho, hbw⟩ := hrel
      by_cases hlt : k + 1 < l.length
      · obtain ⟨c1, c2⟩ := owns_cells ho (k + 1) hlt
        obtain ⟨c3, c4⟩ := owns_cells ho k (by omega)
        have HT := Lib.hid (tidy_take hlt)
        have HO := Lib.hid ho
        have hgr : g < wr.heap.size := by have := hbw.size; omega
        have HTT := Lib.hid ht
        have hw1 : IntKind.i64.wrap (k : Int) = (k : Int) := IntWalk.i64_in _ (by omega)
        have hck : ¬ (c = k + 1) := by omega
        clear ho ht hown
        have d15 : decide ((k : Int) + 1 < (l.length : Int)) = true := by simp; omega
        by_cases hs : ((l.getD (k + 1) (0, 0)).2 == (l.getD k (0, 0)).2) = true
        · generalize (l.getD (k + 1) (0, 0)).2 = y at c2 hs HT
          generalize (l.getD k (0, 0)).2 = y' at c4 hs HT
          generalize (l.getD (k + 1) (0, 0)).1 = x at c1
          generalize (l.getD k (0, 0)).1 = x' at c3
          go_wp2_with fail
          have b1 : (0 : Int) ≤ (k : Int) + 1 := by omega
          have b2 : (k : Int) + 1 < (l.length : Int) := by omega
          have b3 : (0 : Int) ≤ (k : Int) := by omega
          have b4 : (k : Int) < (l.length : Int) := by omega
          have t1 : ((k : Int) + 1).toNat = k + 1 := by omega
          go_region_held3 (fun w' => w'.cell? ⟨g, (k + 1) * 2, none⟩ = some (.int .i64 x) ∧ w'.cell? ⟨g, (k + 1) * 2 + 1, none⟩ = some (.int .i64 y) ∧ w'.cell? ⟨g, k * 2, none⟩ = some (.int .i64 x') ∧ w'.cell? ⟨g, k * 2 + 1, none⟩ = some (.int .i64 y')) (go_keep)
            (first | (go_at_call 84; refine (same_any x y x' y' _).mono ?_; rintro e w1 ⟨rfl, hb1⟩; replace hb1 := below_undrew hb1; obtain ⟨hc1, hf1⟩ := olds hb1))
          have hz1 := hb1.size
          go_wp2_with fail
          obtain ⟨n2, hn2⟩ : ∃ n2, l.length - (k + 1) = n2 := ⟨_, rfl⟩
          rw [hn2]
          have hln : l.length = k + 1 + n2 := by omega
          have HLN := Lib.hid hln
          have hn2p : 0 < n2 := by omega
          have hcn : k + 1 + n2 ≤ c := by omega
          have hn21 : n2 ≤ 1000 := by omega
          have hgbk : g < w1.heap.size := by omega
          have HI := Lib.hid (show Inner l base g c w (k + 1) (k + 1) 0 l w1 from ⟨rfl, own_below HO.out hb1, by rw [HT.out, HTT.out, if_pos (by simpa using hs)]; simp, fun j _ _ => rfl, hbw.trans (hb1.mono (by omega))⟩)
          have HKL := Lib.hid (show (tidyL (l.take (k + 1 + 0 + 1))).length = k + 1 by rw [Nat.add_zero, HT.out, HTT.out, if_pos (by simpa using hs), List.append_nil, List.length_take]; omega)
          clear hc1 hf1 hz1 hn2 hln HO HT HTT c1 c2 c3 c4 hs hb1 hgr hbw hw1 hck d15 hk hlt hlc
          go_loopw [5, 7] (fun kv mv wr2 => ∃ (kk m : Nat) (M : Prof), kv = .int .i64 kk ∧ mv = .int .i64 ((m + 1 : Nat) : Int) ∧ kk ≤ k + 1 + m ∧ m + 1 ≤ n2 ∧ (tidyL (l.take (k + 1 + m + 1))).length = kk ∧ Inner l base g c w (k + 1) kk m M wr2) (fun _ mv _ => n2 - (intOf mv).toNat)
          case atStart => exact ⟨k + 1, 0, l, by go_num, rfl, by omega, by omega, HKL.out, HI.out⟩
          case round =>
            obtain ⟨kk, m, M, rfl, rfl, hkk, hmn, hkl, hI⟩ := hrel
            clear HI HKL
            have HLN' := HLN.out
            obtain ⟨i1, i2, i3, i4, i5⟩ := hI
            have hgr2 : g < wr.heap.size := by
              obtain ⟨g', e, _, hh, _⟩ := owns_at i2 (by omega)
              injection e with e; injection e with e1 _; rw [e1]; exact hh
            have HI2 := Lib.hid i2
            have HI1 := Lib.hid i1
            have HI3 := Lib.hid i3
            have HI4 := Lib.hid i4
            have HKL := Lib.hid hkl
            by_cases hlt2 : m + 1 < n2
            · obtain ⟨c1, c2⟩ := owns_cells i2 (k + 1 + (m + 1)) (by omega)
              obtain ⟨c3, c4⟩ := owns_cells i2 (k + 1 + m) (by omega)
              have f1 : _ = _ := i4 (k + 1 + (m + 1)) (by omega) (by omega)
              have f2 : _ = _ := i4 (k + 1 + m) (by omega) (by omega)
              rw [f1] at c1 c2
              rw [f2] at c3 c4
              have HT := Lib.hid (tidy_take (l := l) (m := k + 1 + m) (by omega))
              rw [show k + 1 + m + 1 = k + 1 + (m + 1) by omega] at HT
              rw [show (k + 1 + (m + 1)) * 2 = (k + 1) * 2 + (m + 1) * 2 by omega] at c1 c2
              rw [show (k + 1 + m) * 2 = (k + 1) * 2 + m * 2 by omega] at c3 c4
              clear f1 f2 i1 i2 i3 i4 hkl HLN'
              generalize hxx : (l.getD (k + 1 + (m + 1)) (0, 0)) = q at c1 c2 HT
              have HQ := Lib.hid hxx
              clear hxx
              obtain ⟨x, y⟩ := q
              generalize (l.getD (k + 1 + m) (0, 0)).2 = y' at c4 HT
              generalize (l.getD (k + 1 + m) (0, 0)).1 = x' at c3
              dsimp only at c1 c2
              have hw1 : IntKind.i64.wrap (m : Int) = (m : Int) := IntWalk.i64_in _ (by omega)
              have d35 : decide ((m : Int) + 1 < (n2 : Int)) = true := by simp; omega
              by_cases hs : (y == y') = true
              · go_wp2_with fail
                have b1 : (0 : Int) ≤ (m : Int) + 1 := by omega
                have b2 : (m : Int) + 1 < (n2 : Int) := by omega
                have b3 : (0 : Int) ≤ (m : Int) := by omega
                have b4 : (m : Int) < (n2 : Int) := by omega
                have t1 : ((m : Int) + 1).toNat = m + 1 := by omega
                go_region_held3 (fun w' => w'.cell? ⟨g, (k + 1) * 2 + (m + 1) * 2, none⟩ = some (.int .i64 x) ∧ w'.cell? ⟨g, (k + 1) * 2 + (m + 1) * 2 + 1, none⟩ = some (.int .i64 y) ∧ w'.cell? ⟨g, (k + 1) * 2 + m * 2, none⟩ = some (.int .i64 x') ∧ w'.cell? ⟨g, (k + 1) * 2 + m * 2 + 1, none⟩ = some (.int .i64 y')) (go_keep)
                  (first | (go_at_call 84; refine (same_any x y x' y' _).mono ?_; rintro e w3 ⟨rfl, hb3⟩; replace hb3 := below_undrew hb3; obtain ⟨hc3, hf3⟩ := olds hb3))
                have hz3 := hb3.size
                go_wp2_with fail
                go_roundw
                case rel =>
                  have hs' : y = y' := by simpa using hs
                  have e : tidyL (l.take (k + 1 + (m + 1) + 1)) = tidyL (l.take (k + 1 + (m + 1))) := by rw [HT.out, if_pos hs', List.append_nil]
                  refine ⟨kk, m + 1, M, rfl, by go_num, by omega, by omega, by rw [e]; exact HKL.out, HI1.out, own_below HI2.out hb3, by rw [e]; exact HI3.out, fun j j1 j2 => HI4.out j (by omega) j2, i5.trans (hb3.mono (by omega))⟩
                case measure => simp [intOf] <;> omega
              · have hs : (y == y') = false := by simpa using hs
                go_wp2_with fail
                have b1 : (0 : Int) ≤ (m : Int) + 1 := by omega
                have b2 : (m : Int) + 1 < (n2 : Int) := by omega
                have b3 : (0 : Int) ≤ (m : Int) := by omega
                have b4 : (m : Int) < (n2 : Int) := by omega
                have t1 : ((m : Int) + 1).toNat = m + 1 := by omega
                go_region_held3 (fun w' => w'.cell? ⟨g, (k + 1) * 2 + (m + 1) * 2, none⟩ = some (.int .i64 x) ∧ w'.cell? ⟨g, (k + 1) * 2 + (m + 1) * 2 + 1, none⟩ = some (.int .i64 y) ∧ w'.cell? ⟨g, (k + 1) * 2 + m * 2, none⟩ = some (.int .i64 x') ∧ w'.cell? ⟨g, (k + 1) * 2 + m * 2 + 1, none⟩ = some (.int .i64 y')) (go_keep)
                  (first | (go_at_call 84; refine (same_any x y x' y' _).mono ?_; rintro e w3 ⟨rfl, hb3⟩; replace hb3 := below_undrew hb3; obtain ⟨hc3, hf3⟩ := olds hb3))
                have hz3 := hb3.size
                have own3 := own_below HI2.out hb3
                have hkM : kk < M.length := by rw [HI1.out, HLN.out]; omega
                have hkl2 : kk < l.length := by rw [HLN.out]; omega
                obtain ⟨k1, k2⟩ := owns_cells own3 kk hkM
                have fz1 := own3.frozenAt (kk * 2)
                have fz2 := own3.frozenAt (kk * 2 + 1)
                have b5 : (kk : Int) < (l.length : Int) := by omega
                have hw5 : IntKind.i64.wrap ((kk : Int) + 1) = (kk : Int) + 1 := IntWalk.i64_in _ (by omega)
                have HO3 := Lib.hid own3
                have HKM := Lib.hid hkM
                clear own3 hkM hc3 hf3
                go_wp2_with fail
                go_roundw
                case rel =>
                  have hs' : ¬ y = y' := by simpa using hs
                  have e : tidyL (l.take (k + 1 + (m + 1) + 1)) = tidyL (l.take (k + 1 + (m + 1))) ++ [(x, y)] := by rw [HT.out, if_neg hs']
                  have hkl' : (tidyL (l.take (k + 1 + (m + 1)))).length = kk := HKL.out
                  have h3' : M.take kk = tidyL (l.take (k + 1 + (m + 1))) := HI3.out
                  refine ⟨kk + 1, m + 1, M.set kk (x, y), by go_num, by go_num, by omega, by omega, by rw [e, List.length_append, hkl']; rfl, by rw [List.length_set]; exact HI1.out, owns_set HO3.out kk (x, y) HKM.out, ?_, fun j j1 j2 => ?_, ((i5.trans (hb3.mono (by omega))).setCell (by exact hbg) _).setCell (by exact hbg) _⟩
                  · rw [e, ← h3', List.take_succ_eq_append_getElem (by rw [List.length_set]; exact HKM.out), List.take_set_of_le (Nat.le_refl _), List.getElem_set_self]
                  · rw [← HI4.out j (by omega) j2, List.getD_eq_getElem?_getD, List.getElem?_set_ne (by omega), ← List.getD_eq_getElem?_getD]
                case measure => simp [intOf] <;> omega
            · have hme : m + 1 = n2 := by omega
              have d35 : decide ((m : Int) + 1 < (n2 : Int)) = false := by simp; omega
              have HFIN := Lib.hid (show tidyL (l.take (k + 1 + m + 1)) = tidyL l by rw [List.take_of_length_le (by omega)])
              have hkn : kk < l.length := by omega
              have hkc : ¬ (c = kk) := by omega
              have hkb : (kk : Int) ≤ (l.length : Int) := by omega
              obtain ⟨g', e, _, _, hlc2, hcm2, cur, hgc, hcs⟩ := owns_at i2 (by omega)
              injection e with e
              injection e with e1 _
              subst e1
              have htk : cur.toList.take (M.length * 2) = stepCells M := by
                rcases i2.2 with ⟨_, hn⟩ | ⟨g', cap, cur', hv, _, h2, _, _, _, h5⟩
                · omega
                · injection hv with e1 _ _
                  injection e1 with e1; injection e1 with e1 _
                  subst e1
                  rw [hgc] at h2
                  injection h2 with h2; injection h2 with h2 _ _
                  rw [h2]; exact h5
              obtain ⟨i0, hi0, hz0, hzs, hzb⟩ := info_parts step_info
              have hclr : ∀ ty cc, (Builtin.clear_ #[53] ty #[.slice (some ⟨g, kk * 2, none⟩) (l.length - kk) cc]).run Try.prog wr = .ok (.tuple #[]) (wr.setRow g (splice cur.toList (kk * 2) (Builtin.zeroCells (Value.agg #[.int .i64 0, .int .i64 0]).cells (l.length - kk)).toList).toArray) := fun ty cc =>
                run_clear_row wr _ ty 90 i0 _ g (kk * 2) (l.length - kk) cc cur 90 Try.underlying53 hi0 hz0 (by simp [Value.cells, Value.oneCell']) hgc (by rw [hcs]; simp [Value.cells]; omega) (by omega)
              obtain ⟨W4, hW4⟩ : ∃ W4, W4 = wr.setRow g (splice cur.toList (kk * 2) (Builtin.zeroCells (Value.agg #[.int .i64 0, .int .i64 0]).cells (l.length - kk)).toList).toArray := ⟨_, rfl⟩
              have hzl : (Builtin.zeroCells (Value.agg #[.int .i64 0, .int .i64 0]).cells (l.length - kk)).toList.length = (l.length - kk) * 2 := by simp [Builtin.zeroCells, Value.cells]
              have HG4 := Lib.hid (show W4.heap[g]? = some (.cells (splice cur.toList (kk * 2) (Builtin.zeroCells (Value.agg #[.int .i64 0, .int .i64 0]).cells (l.length - kk)).toList).toArray 90 (0, 0)) by rw [hW4]; exact setRow_is hgc _)
              have HL4 := Lib.hid (show (splice cur.toList (kk * 2) (Builtin.zeroCells (Value.agg #[.int .i64 0, .int .i64 0]).cells (l.length - kk)).toList).length = c * 2 by rw [length_splice _ _ _ (by rw [hzl]; simp only [Array.length_toList, hcs]; omega)]; simpa using hcs)
              have HT4 := Lib.hid (show (splice cur.toList (kk * 2) (Builtin.zeroCells (Value.agg #[.int .i64 0, .int .i64 0]).cells (l.length - kk)).toList).take (kk * 2) = stepCells (tidyL l) by
                unfold splice
                rw [List.take_append_of_le_length (by rw [List.length_take]; simp only [Array.length_toList, hcs]; omega), List.take_take, Nat.min_self, ← HFIN.out, ← HI3.out, cells_take, ← htk, List.take_take]
                congr 1; omega)
              have hb4 : Below base w W4 := by rw [hW4]; exact below_setRow i5 hbg _
              rw [← hW4] at hclr
              have HKT := Lib.hid (show (tidyL l).length = kk by rw [← HFIN.out]; exact HKL.out)
              have hlc3 : kk ≤ c := by omega
              clear i1 i2 i3 i4 hkl HLN' hi0 hz0 hzs hzb hW4 hzl htk hgc hcs hme HFIN HKL HI3
              go_wp2_with (refine wpList_clear_run _ rfl (.tmp 61) 53 rfl _ rfl (hclr _ _) ?_)
              go_ret
              exact ⟨some ⟨g, 0, none⟩, c, ret_sl HKT.out.symm, owns_mk hbg HG4.out HL4.out (by rw [HKT.out]; exact hlc3) hcm2 (by rw [HKT.out]; exact HT4.out), hb4⟩
        · have hs : ((l.getD (k + 1) (0, 0)).2 == (l.getD k (0, 0)).2) = false := by simpa using hs
          have HQ := Lib.hid (rfl : l.getD (k + 1) (0, 0) = l.getD (k + 1) (0, 0))
          have HE := Lib.hid (show l.take (k + 1 + 1) = l.take (k + 1) ++ [l.getD (k + 1) (0, 0)] by
            rw [List.take_succ_eq_append_getElem hlt, List.getD_eq_getElem?_getD, List.getElem?_eq_getElem hlt]; rfl)
          have HT2 := Lib.hid (show tidyL (l.take (k + 1 + 1)) = l.take (k + 1 + 1) by
            rw [HT.out, HTT.out, if_neg (by simpa using hs), ← HE.out])
          clear HT HTT HE HQ
          generalize (l.getD (k + 1) (0, 0)).2 = y at c2 hs
          generalize (l.getD k (0, 0)).2 = y' at c4 hs
          generalize (l.getD (k + 1) (0, 0)).1 = x at c1
          generalize (l.getD k (0, 0)).1 = x' at c3
          go_wp2_with fail
          have b1 : (0 : Int) ≤ (k : Int) + 1 := by omega
          have b2 : (k : Int) + 1 < (l.length : Int) := by omega
          have b3 : (0 : Int) ≤ (k : Int) := by omega
          have b4 : (k : Int) < (l.length : Int) := by omega
          have t1 : ((k : Int) + 1).toNat = k + 1 := by omega
          go_region_held3 (fun w' => w'.cell? ⟨g, (k + 1) * 2, none⟩ = some (.int .i64 x) ∧ w'.cell? ⟨g, (k + 1) * 2 + 1, none⟩ = some (.int .i64 y) ∧ w'.cell? ⟨g, k * 2, none⟩ = some (.int .i64 x') ∧ w'.cell? ⟨g, k * 2 + 1, none⟩ = some (.int .i64 y')) (go_keep)
            (first | (go_at_call 84; refine (same_any x y x' y' _).mono ?_; rintro e w1 ⟨rfl, hb1⟩; replace hb1 := below_undrew hb1; obtain ⟨hc1, hf1⟩ := olds hb1))
          have hz1 := hb1.size
          go_wp2_with fail
          go_roundw
          case rel => exact ⟨k + 1, hlt, by go_num, HT2.out, own_below HO.out hb1, hbw.trans (hb1.mono (by omega))⟩
          case measure => simp [intOf] <;> omega
      · have hke : l.length = k + 1 := by omega
        have d15 : decide ((k : Int) + 1 < (l.length : Int)) = false := by simp; omega
        have HF := Lib.hid (show tidyL l = l by rw [← hke] at ht; rwa [List.take_length] at ht)
        clear ht hke
        go_wp2_with fail
        go_ret
        exact ⟨_, c, by rw [HF.out]; rfl, by rw [HF.out]; exact ho, hbw⟩
end Go.Proofs.Ytifmdkcpbajdcab
