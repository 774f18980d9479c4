/- Walks: the document's answers: a ship. -/
import Derived.Test.YtifmdkcpbajdcabRefP1
namespace Go.Proofs.Ytifmdkcpbajdcab
open Go.RowKit Go.Proofs Plain

def shipOk5 (s : Ship) : Bool := inB s.state 1 4 && inB s.wide 1 16 && inB s.long 1 300 && inB s.cls 0 3 && decide (0 ≤ s.queued)
theorem shipB_not {s : Ship} {now : Int} (h : shipOk5 s = false) : shipB s now = false := by unfold shipB; unfold shipOk5 at h; rw [h]; rfl
theorem shipB_yes {s : Ship} {now : Int} (h : shipOk5 s = true) :
    shipB s now = (if s.state = 3 then decide (0 ≤ s.since) && decide (s.since ≤ now) && decide (now < s.since + s.long) && decide (s.since + s.long ≤ 300) else decide (s.since = 0)) := by unfold shipB; unfold shipOk5 at h; rw [h]; rfl
theorem ok5_long {s : Ship} (h : shipOk5 s = true) : 1 ≤ s.long ∧ s.long ≤ 300 := by
  unfold shipOk5 at h
  simp only [Bool.and_eq_true] at h
  exact (inB_iff _ _ _).1 h.1.1.2
theorem inB_within {n lo hi : Int} {b : Bool} (h : inB n lo hi = b) : (decide (lo ≤ n) && decide (n ≤ hi)) = b := h

set_option maxRecDepth 100000 in
set_option maxHeartbeats 16000000 in
theorem isShip_any (s : Ship) (now : Int) (w : World) (hn : i64 now) :
    Calls Try.prog 36 #[.agg (shipV s), .int .i64 now] w fun e w' => e = .returned (.bool (shipB s now)) ∧ Below w.heap.size w w' := by
  have HNO := Lib.hid (@shipB_not s now)
  have HYES := Lib.hid (@shipB_yes s now)
  have HLG := Lib.hid (@ok5_long s)
  have H5 := Lib.hid (show shipOk5 s = (inB s.state 1 4 && inB s.wide 1 16 && inB s.long 1 300 && inB s.cls 0 3 && decide (0 ≤ s.queued)) from rfl)
  generalize shipB s now = R at *
  generalize shipOk5 s = K at *
  obtain ⟨st, wd, lg, cl, si, qu⟩ := s
  dsimp only at HNO HYES HLG H5
  unfold i64 at hn
  simp only [shipV]
  go_enter Try.func36, Try.ntmps36
  go_upto_region 1 with fail
  go_cut [5] (fun v5 wq => v5 = .bool K ∧ wq = w.alloc (.cells #[.int .i64 st, .int .i64 wd, .int .i64 lg, .int .i64 cl, .int .i64 si, .int .i64 qu] 38))
  case first => as_aux_lemma =>
    cases h1 : inB st 1 4
    · have HA := Lib.hid (inB_within h1)
      have E := Lib.hid (show K = false by rw [H5.out, h1]; rfl)
      clear h1 H5 HNO HYES HLG
      go_wp2_with (go_at_call 35; (with_reducible refine (within_is _ HA.out).mono ?_); rintro e w' ⟨rfl, rfl⟩)
      go_meet
      exact ⟨by rw [E.out], rfl⟩
    · cases h2 : inB wd 1 16
      · have HA := Lib.hid (inB_within h1)
        have HB := Lib.hid (inB_within h2)
        have E := Lib.hid (show K = false by rw [H5.out, h1, h2]; rfl)
        clear h1 h2 H5 HNO HYES HLG
        go_wp2_with (first
          | (go_at_call 35; (with_reducible refine (within_is _ HA.out).mono ?_); rintro e w' ⟨rfl, rfl⟩)
          | (go_at_call 35; (with_reducible refine (within_is _ HB.out).mono ?_); rintro e w' ⟨rfl, rfl⟩))
        go_meet
        exact ⟨by rw [E.out], rfl⟩
      · cases h3 : inB lg 1 300
        · have HA := Lib.hid (inB_within h1)
          have HB := Lib.hid (inB_within h2)
          have HC := Lib.hid (inB_within h3)
          have E := Lib.hid (show K = false by rw [H5.out, h1, h2, h3]; rfl)
          clear h1 h2 h3 H5 HNO HYES HLG
          go_wp2_with (first
            | (go_at_call 35; (with_reducible refine (within_is _ HA.out).mono ?_); rintro e w' ⟨rfl, rfl⟩)
            | (go_at_call 35; (with_reducible refine (within_is _ HB.out).mono ?_); rintro e w' ⟨rfl, rfl⟩)
            | (go_at_call 35; (with_reducible refine (within_is _ HC.out).mono ?_); rintro e w' ⟨rfl, rfl⟩))
          go_meet
          exact ⟨by rw [E.out], rfl⟩
        · cases h4 : inB cl 0 3
          · have HA := Lib.hid (inB_within h1)
            have HB := Lib.hid (inB_within h2)
            have HC := Lib.hid (inB_within h3)
            have HD := Lib.hid (inB_within h4)
            have E := Lib.hid (show K = false by rw [H5.out, h1, h2, h3, h4]; rfl)
            clear h1 h2 h3 h4 H5 HNO HYES HLG
            go_wp2_with (first
              | (go_at_call 35; (with_reducible refine (within_is _ HA.out).mono ?_); rintro e w' ⟨rfl, rfl⟩)
              | (go_at_call 35; (with_reducible refine (within_is _ HB.out).mono ?_); rintro e w' ⟨rfl, rfl⟩)
              | (go_at_call 35; (with_reducible refine (within_is _ HC.out).mono ?_); rintro e w' ⟨rfl, rfl⟩)
              | (go_at_call 35; (with_reducible refine (within_is _ HD.out).mono ?_); rintro e w' ⟨rfl, rfl⟩))
            go_meet
            exact ⟨by rw [E.out], rfl⟩
          · have HA := Lib.hid (inB_within h1)
            have HB := Lib.hid (inB_within h2)
            have HC := Lib.hid (inB_within h3)
            have HD := Lib.hid (inB_within h4)
            have E := Lib.hid (show K = decide (0 ≤ qu) by rw [H5.out, h1, h2, h3, h4]; simp)
            clear h1 h2 h3 h4 H5 HNO HYES HLG
            go_wp2_with (first
              | (go_at_call 35; (with_reducible refine (within_is _ HA.out).mono ?_); rintro e w' ⟨rfl, rfl⟩)
              | (go_at_call 35; (with_reducible refine (within_is _ HB.out).mono ?_); rintro e w' ⟨rfl, rfl⟩)
              | (go_at_call 35; (with_reducible refine (within_is _ HC.out).mono ?_); rintro e w' ⟨rfl, rfl⟩)
              | (go_at_call 35; (with_reducible refine (within_is _ HD.out).mono ?_); rintro e w' ⟨rfl, rfl⟩))
            go_meet
            exact ⟨by rw [E.out], rfl⟩
  obtain ⟨rfl, rfl⟩ := hcut
  have hB : Below w.heap.size w (w.alloc (.cells #[.int .i64 st, .int .i64 wd, .int .i64 lg, .int .i64 cl, .int .i64 si, .int .i64 qu] 38)) := (Below.refl _ _).alloc (Nat.le_refl _) _
  cases K with
  | false =>
    have HR := Lib.hid (HNO.out rfl)
    clear HNO HYES HLG H5
    by_cases h3 : st = 3
    · subst h3
      go_wp2_with fail
      go_ret
      exact ⟨ret_bool HR.out.symm, hB⟩
    · obtain ⟨a1, a2, a3⟩ := ne_facts' h3
      go_wp2_with fail
      go_ret
      exact ⟨ret_bool HR.out.symm, hB⟩
  | true =>
    have HR := Lib.hid (HYES.out rfl)
    obtain ⟨l1, l2⟩ := HLG.out rfl
    clear HNO HYES HLG H5
    by_cases h3 : st = 3
    · subst h3
      by_cases c1 : 0 ≤ si ∧ si ≤ min now 300
      · have HA := Lib.hid (show (decide (0 ≤ si) && decide (si ≤ min now 300)) = true by simp [c1.1]; omega)
        have b1 := c1.1
        have b2 : si ≤ 300 := by omega
        have b3 : si ≤ now := by omega
        clear c1
        by_cases c2 : now < si + lg
        · have d2 : decide (si + lg > now) = true := by simpa using c2
          have HV := Lib.hid (show R = decide (si + lg ≤ 300) by rw [HR.out]; simp [b1, b3, c2])
          clear HR
          go_wp2_with (go_at_call 35; (with_reducible refine (within_is _ HA.out).mono ?_); rintro e w' ⟨rfl, rfl⟩)
          go_ret
          exact ⟨ret_bool HV.out.symm, hB⟩
        · have d2 : decide (si + lg > now) = false := by simpa using c2
          have HV := Lib.hid (show R = false by rw [HR.out]; simp; omega)
          clear HR
          go_wp2_with (go_at_call 35; (with_reducible refine (within_is _ HA.out).mono ?_); rintro e w' ⟨rfl, rfl⟩)
          go_ret
          exact ⟨ret_bool HV.out.symm, hB⟩
      · have HA := Lib.hid (show (decide (0 ≤ si) && decide (si ≤ min now 300)) = false by simp; omega)
        have HV := Lib.hid (show R = false by rw [HR.out]; simp; omega)
        clear HR c1
        go_wp2_with (go_at_call 35; (with_reducible refine (within_is _ HA.out).mono ?_); rintro e w' ⟨rfl, rfl⟩)
        go_ret
        exact ⟨ret_bool HV.out.symm, hB⟩
    · obtain ⟨a1, a2, a3⟩ := ne_facts' h3
      have HV := Lib.hid (show R = decide (si = 0) by rw [HR.out, if_neg h3])
      clear HR
      go_wp2_with fail
      go_ret
      exact ⟨ret_bool (by rw [HV.out]; first | rfl | (rw [Bool.eq_iff_iff]; simp)), hB⟩
end Go.Proofs.Ytifmdkcpbajdcab
