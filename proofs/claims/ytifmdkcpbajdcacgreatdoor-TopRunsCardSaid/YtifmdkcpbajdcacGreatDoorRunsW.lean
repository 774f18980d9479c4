/- Walks: the replies to a beginning are the beginning of the replies. -/
import Derived.Test.YtifmdkcpbajdcacGreatDoorRunW
set_option linter.unusedVariables false
set_option linter.unusedSimpArgs false
namespace Go.Proofs.YtifmdkcpbajdcacGreatDoor
open Go.RowKit Go.Proofs Plain

theorem str_infoR : (Tryz.prog.info? 9).map (fun i => (i.zero, i.size, i.bytes)) = some (some (.string ByteArray.empty), 1, 16) := by kernel_rfl
theorem strs_one (l : List ByteArray) : ∀ u ∈ strV l, u.oneCell' = true := fun u hu => by
  obtain ⟨s, _, rfl⟩ := List.mem_map.1 hu
  rfl
theorem knum (n : Int) (L : Nat) (hL : L ≤ 80) : ∃ K : Nat, K ≤ L ∧ (wrap64 (wrap64 (n.tmod ((L : Int) + 1) + (L : Int)) + 1)).tmod ((L : Int) + 1) = (K : Int) := by
  have h1 := Int.tmod_lt_of_pos n (show (0 : Int) < (L : Int) + 1 by omega)
  have h2 := Int.lt_tmod_of_pos n (show (0 : Int) < (L : Int) + 1 by omega)
  obtain ⟨r, hr⟩ : ∃ r, n.tmod ((L : Int) + 1) = r := ⟨_, rfl⟩
  rw [hr] at h1 h2 ⊢
  have e1 : wrap64 (r + (L : Int)) = r + L := by unfold wrap64; omega
  rw [e1]
  have e2 : wrap64 (r + (L : Int) + 1) = r + L + 1 := by unfold wrap64; omega
  rw [e2, Int.tmod_eq_emod_of_nonneg (by omega)]
  have h3 := Int.emod_nonneg (r + (L : Int) + 1) (show (L : Int) + 1 ≠ 0 by omega)
  have h4 := Int.emod_lt_of_pos (r + (L : Int) + 1) (show (0 : Int) < (L : Int) + 1 by omega)
  exact ⟨((r + (L : Int) + 1) % ((L : Int) + 1)).toNat, by omega, by omega⟩

theorem eq_replyT (a b : Int) (w : World) : (Op.equalIn 10000 29 (.agg #[.int .i64 a, .int .i64 b]) (.agg #[.int .i64 a, .int .i64 b])).run Tryz.prog w = .ok true w := by simp [go_sem]
attribute [local go_sem] eq_replyT
theorem repCells_len (l : List (Int × Int)) : (repCells l).length = l.length * 2 := by
  induction l with
  | nil => rfl
  | cons r l ih => simp only [repCells, List.length_cons, ih]; omega
theorem repCells_get (l : List (Int × Int)) : ∀ j, j < l.length → (repCells l)[j * 2]? = some (.int .i64 (l.getD j (0, 0)).1) ∧ (repCells l)[j * 2 + 1]? = some (.int .i64 (l.getD j (0, 0)).2) := by
  induction l with
  | nil => intro j hj; simp at hj
  | cons r l ih =>
    intro j hj
    cases j with
    | zero => exact ⟨rfl, rfl⟩
    | succ j =>
      obtain ⟨h1, h2⟩ := ih j (by simpa using hj)
      rw [show (j + 1) * 2 = j * 2 + 2 by omega, show j * 2 + 2 + 1 = j * 2 + 1 + 2 by omega]
      exact ⟨by simpa [repCells] using h1, by simpa [repCells] using h2⟩
theorem rep_at {w : World} {A : Option Addr} {l : List (Int × Int)} (h : Sl w 2 A l.length (repCells l)) (hl : 0 < l.length) :
    ∃ b off, A = some ⟨b, off, none⟩ ∧ ∀ j, j < l.length → w.cell? ⟨b, off + j * 2, none⟩ = some (.int .i64 (l.getD j (0, 0)).1) ∧ w.cell? ⟨b, off + j * 2 + 1, none⟩ = some (.int .i64 (l.getD j (0, 0)).2) := by
  obtain ⟨b, off, e, hc⟩ := h.2 (by omega)
  refine ⟨b, off, e, fun j hj => ?_⟩
  obtain ⟨h1, h2⟩ := repCells_get l j hj
  refine ⟨(hc (j * 2) (by omega)).trans h1, ?_⟩
  have := (hc (j * 2 + 1) (by omega)).trans h2
  rwa [show off + (j * 2 + 1) = off + j * 2 + 1 by omega] at this

set_option maxRecDepth 100000 in
set_option maxHeartbeats 16000000 in
theorem topRuns_walk (Bt : Nat) (l : List ByteArray) (A : Option Addr) (c : Nat) (n : Int) (w : World) (hL : LineAt Bt w) (hsl : StrAt w A l) (hlen : l.length ≤ maxLen) (hsz : ∀ s ∈ l, s.size ≤ maxLen) (hcap : l.length ≤ c) (hn : i64 n) :
    Calls Tryz.prog 4 #[.slice A l.length c, .int .i64 n] w fun e w' => e = .returned (.bool true) ∧ Below w.heap.size w w' := by
  have HL := Lib.hid hL
  have HSL := Lib.hid hsl
  have HSZ := Lib.hid hsz
  have HN := Lib.hid hn
  unfold maxLen at hlen
  clear hL hsl hsz hn
  go_enter Tryz.func4, Tryz.ntmps4
  by_cases h80 : 80 < l.length
  · have t0 : decide ((l.length : Int) > 80) = true := by rw [decide_eq_true_iff]; omega
    have t1 : decide ((80 : Int) < (l.length : Int)) = true := by rw [decide_eq_true_iff]; omega
    have t2 : decide (80 < l.length) = true := by rw [decide_eq_true_iff]; omega
    go_wp2_with fail
    refine (alive_any Bt _ HL.out).mono ?_
    rintro e w1 ⟨rfl, hb1⟩
    go_wp2_with fail
    refine (alive_any Bt _ (HL.out.below (hb1.mono HL.out.size))).mono ?_
    rintro e w2 ⟨rfl, hb2⟩
    have hb := below_go hb1 hb2
    clear hb1 hb2
    go_wp2_with fail
    go_ret
    exact ⟨rfl, hb⟩
  · have t0 : decide ((l.length : Int) > 80) = false := by rw [decide_eq_false_iff_not]; omega
    have t1 : decide ((80 : Int) < (l.length : Int)) = false := by rw [decide_eq_false_iff_not]; omega
    have t2 : decide (80 < l.length) = false := by rw [decide_eq_false_iff_not]; omega
    go_wp2_with fail
    refine (alive_any Bt _ HL.out).mono ?_
    rintro e w1 ⟨rfl, hb1⟩
    go_upto_region 4 with (fail)
    obtain ⟨K, hK, hKe⟩ := knum n l.length (by omega)
    rw [hKe]
    clear hKe
    obtain ⟨i0, hi0, hz0, hzs, hzb⟩ := info_parts str_infoR
    have hs1 : StrAt w1 A l := Sl.below HSL.out hb1
    go_wp2_with (at_builtin; refine wpList_append_copy rfl _ _ 22 rfl w1.heap.size 9 i0 _ 1 16 Tryz.underlying22 hi0 hz0 hzs hzb rfl (by decide) rfl A l.length c (strV l) rfl hs1 (strs_one l) (by unfold maxLen; omega) (by omega) (Nat.le_refl _) ?_; intro v2 w2 ho2 hb2; obtain ⟨A2, c2, rfl⟩ := own_form ho2)
    have hB2 := below_go hb1 hb2
    have hr2 := run_any Bt l A2 c2 w2 (HL.out.below (hB2.mono HL.out.size)) (Sl.of_own ho2) (by omega) HSZ.out
    unfold RetRun at hr2
    rw [List.length_map] at hr2
    refine hr2.mono ?_
    rintro e w3 ⟨A3, c3, rfl, h3, hb3⟩
    have hB3 := below_go hB2 hb3
    have HS3 := Lib.hid (show StrAt w3 A l from Sl.below HSL.out hB3)
    have HRS := Lib.hid (run_take (l.map (·.data.toList)) K Desk.new)
    obtain ⟨R, hR⟩ : ∃ R, runL Desk.new (l.map (·.data.toList)) = R := ⟨_, rfl⟩
    rw [hR] at HRS h3
    have HRL := Lib.hid (show R.length = l.length by rw [← hR, run_len, List.length_map])
    have HB3 := Lib.hid hB3
    have H3 := Lib.hid h3
    clear hs1 hb1 hb2 hB2 hr2 ho2 hb3 hB3 h3 hR
    have k1 : decide ((K : Int) ≤ (c : Int)) = true := by rw [decide_eq_true_iff]; omega
    have k2 : K ≤ c := by omega
    have hs3 : Sl w3 1 A K (strV (l.take K)) := by
      have h := HS3.out
      refine ⟨by simp [strV]; omega, fun hn => ?_⟩
      obtain ⟨b, off, e, hc⟩ := h.2 (by omega)
      refine ⟨b, off, e, fun q hq => ?_⟩
      rw [hc q (by omega)]
      simp only [strV, List.getElem?_map, List.getElem?_take]
      rw [if_pos (by omega)]
    go_upto_region 5 with (fail)
    go_wp2_with (at_builtin; refine wpList_append_copy rfl _ _ 22 rfl w3.heap.size 9 i0 _ 1 16 Tryz.underlying22 hi0 hz0 hzs hzb rfl (by decide) rfl A K c (strV (l.take K)) (by first | rfl | simp [Act.eval, Act.put]) hs3 (strs_one _) (by unfold maxLen; omega) (by omega) (Nat.le_refl _) ?_; intro v4 w4 ho4 hb4; obtain ⟨A4, c4, rfl⟩ := own_form ho4)
    have hB4 := below_go HB3.out hb4
    have hr4 := run_any Bt (l.take K) A4 c4 w4 (HL.out.below (hB4.mono HL.out.size)) (by show Sl w4 1 A4 (l.take K).length (strV (l.take K)); rw [show (l.take K).length = K by rw [List.length_take]; omega]; exact Sl.of_own ho4) (by rw [List.length_take]; omega) (fun s hs => HSZ.out s (List.mem_of_mem_take hs))
    unfold RetRun at hr4
    rw [List.length_map, List.length_take, Nat.min_eq_left hK, List.map_take, HRS.out] at hr4
    refine hr4.mono ?_
    rintro e w5 ⟨A5, c5, rfl, h5, hb5⟩
    have hB5 := below_go hB4 hb5
    have H35 := Lib.hid (Sl.below (Sl.below H3.out hb4) hb5)
    have H5 := Lib.hid h5
    have HB5 := Lib.hid hB5
    clear hs3 ho4 hb4 hB4 hr4 h5 hb5 hB5 H3 HB3 HS3 hi0 hz0 hzs hzb k1
    go_upto_region 8 with (fail)
    go_wp2_with fail
    go_loopw [9] (fun v wr => ∃ j m : Nat, j ≤ K ∧ v = .int .i64 j ∧ wr = w5.drewN m) (fun v _ => K - (intOf v).toNat)
    case atStart => exact ⟨0, 0, Nat.zero_le _, rfl, rfl⟩
    case round =>
      obtain ⟨j, m, hj, rfl, rfl⟩ := hrel
      by_cases hlt : j < K
      · obtain ⟨b3, off3, hA3, hc3⟩ := rep_at (l := R) (by rw [HRL.out]; exact H35.out) (by rw [HRL.out]; omega)
        subst hA3
        obtain ⟨b5, off5, hA5, hc5⟩ := rep_at (l := R.take K) (by rw [show (R.take K).length = K by rw [List.length_take, HRL.out]; omega]; exact H5.out) (by rw [List.length_take, HRL.out]; omega)
        subst hA5
        obtain ⟨d1, d2⟩ := hc3 j (by rw [HRL.out]; omega)
        obtain ⟨f1, f2⟩ := hc5 j (by rw [List.length_take, HRL.out]; omega)
        rw [show (R.take K).getD j (0, 0) = R.getD j (0, 0) by simp only [List.getD_eq_getElem?_getD, List.getElem?_take]; rw [if_pos hlt]] at f1 f2
        generalize R.getD j (0, 0) = t at *
        obtain ⟨t1, t2⟩ := t
        dsimp only at d1 d2 f1 f2
        clear hc3 hc5
        go_wp2_with fail
        go_quiet (fail)
        go_wp2_with fail
        go_roundw
        case rel => exact ⟨j + 1, m + nq, by omega, by go_num, by first | trivial | rw [World.drewN_drewN]⟩
        case measure => simp [intOf] <;> omega
      · obtain rfl : j = K := by omega
        go_wp2_with fail
        go_ret
        exact ⟨rfl, below_drewN HB5.out _⟩
end Go.Proofs.YtifmdkcpbajdcacGreatDoor
