/- Walks: where two profiles differ. -/
import Derived.Test.YtifmdkcpbajdcabMovedW
import Derived.Deep.LoopGhost
namespace Go.Proofs.Ytifmdkcpbajdcab
open Go.RowKit Go.Proofs Plain

theorem next_drop (l : Prof) (j : Nat) : nextAt (l.drop j) = if j < l.length then (l.getD j (0, 0)).1 else 300 := by
  by_cases h : j < l.length
  · rw [if_pos h, List.drop_eq_getElem_cons h, List.getD_eq_getElem?_getD, List.getElem?_eq_getElem h]; rfl
  · rw [if_neg h, List.drop_eq_nil_of_le (by omega)]; rfl

def stepD (d : Dirt) (a b : Stp) (x y : Int) : Dirt := if a.2 ≠ b.2 then addD d (max a.1 b.1) (min x y) else d
theorem stepD_len (d : Dirt) (a b : Stp) (x y : Int) : (stepD d a b x y).length ≤ d.length + 1 := by
  unfold stepD; split
  · exact addD_len _ _ _
  · omega

theorem drop_get (l : Prof) {i : Nat} (h : i < l.length) : l.drop i = l.getD i (0, 0) :: l.drop (i + 1) := by
  rw [List.drop_eq_getElem_cons h, List.getD_eq_getElem?_getD, List.getElem?_eq_getElem h]; rfl

theorem diff_end {l m : Prof} {i k : Nat} {d : Dirt} (h : ¬ (i < l.length ∧ k < m.length)) : diff (l.drop i) (m.drop k) d = d := by
  by_cases h1 : i < l.length
  · have e : m.drop k = [] := List.drop_eq_nil_of_le (by omega)
    rw [e, drop_get l h1]; simp [diff]
  · have e : l.drop i = [] := List.drop_eq_nil_of_le (by omega)
    rw [e]; simp [diff]

theorem diff_next {l m : Prof} {i k : Nat} (h1 : i < l.length) (h2 : k < m.length) (d : Dirt) {x y : Int} (hx : nextAt (l.drop (i + 1)) = x) (hy : nextAt (m.drop (k + 1)) = y) :
    diff (l.drop i) (m.drop k) d = diff (l.drop (if x ≤ y then i + 1 else i)) (m.drop (if y ≤ x then k + 1 else k)) (stepD d (l.getD i (0, 0)) (m.getD k (0, 0)) x y) := by
  have e1 := drop_get l h1
  have e2 := drop_get m h2
  unfold stepD
  generalize l.getD i (0, 0) = a at *
  generalize m.getD k (0, 0) = b at *
  obtain ⟨a, u⟩ := a
  obtain ⟨b, v⟩ := b
  rw [e1, e2, diff, hx, hy]
  by_cases g1 : x < y
  · rw [if_pos g1, if_pos (show x ≤ y by omega), if_neg (show ¬ y ≤ x by omega), e2]
  · rw [if_neg g1]
    by_cases g2 : y < x
    · rw [if_pos g2, if_neg (show ¬ x ≤ y by omega), if_pos (show y ≤ x by omega), e1]
    · rw [if_neg g2, if_pos (show x ≤ y by omega), if_pos (show y ≤ x by omega)]

set_option maxRecDepth 100000 in
set_option maxHeartbeats 20000000 in
theorem differ_any (g base : Nat) (v : Value) (d : Dirt) (l m : Prof) (A1 A2 : Option Addr) (c1 c2 : Nat) (w : World) (h : DirtAt w g base v d) (hb : base ≤ w.heap.size)
    (hl1 : l.length ≤ 1000) (hl2 : m.length ≤ 1000) (hdl : d.length ≤ 1000) (hin1 : Sl w 2 A1 l.length (stepCells l)) (hin2 : Sl w 2 A2 m.length (stepCells m)) (ho1 : Off w g v A1 l.length) (ho2 : Off w g v A2 m.length) :
    Calls Try.prog 38 #[.pointer (some ⟨g, 0, none⟩), .slice A1 l.length c1, .slice A2 m.length c2] w (RetDirt g base v (diff l m d) w) := by
  have HD := Lib.hid (show diff (l.drop 0) (m.drop 0) d = diff l m d by rfl)
  generalize diff l m d = D at *
  go_enter Try.func38, Try.ntmps38
  go_wp2_with fail
  go_loopg [6, 7] (l.length + m.length) (fun n s6 s7 wr => ∃ (i k : Nat) (v' : Value) (dd : Dirt), n = l.length + m.length - (i + k) ∧ i ≤ l.length ∧ k ≤ m.length ∧ s6 = .int .i64 i ∧ s7 = .int .i64 k ∧ DirtAt wr g base v' dd ∧ Adds g w wr v v' ∧ dd.length ≤ d.length + i + k ∧ diff (l.drop i) (m.drop k) dd = D)
  case atStart => exact ⟨0, 0, v, d, rfl, Nat.zero_le _, Nat.zero_le _, rfl, rfl, h, .refl, Nat.le_refl _, HD.out⟩
  case round =>
    obtain ⟨i, k, v', dd, hn, hi, hk, rfl, rfl, hd, ha, hlen, heq⟩ := hrel
    have HQ := Lib.hid heq
    clear heq h HD
    by_cases hlt : i < l.length ∧ k < m.length
    · obtain ⟨h1, h2⟩ := hlt
      have HNX := Lib.hid (fun x y hx hy => @diff_next l m i k h1 h2 dd x y hx hy)
      have HX := Lib.hid (next_drop l (i + 1))
      have HY := Lib.hid (next_drop m (k + 1))
      obtain ⟨x, hx⟩ : ∃ x, nextAt (l.drop (i + 1)) = x := ⟨_, rfl⟩
      obtain ⟨y, hy⟩ : ∃ y, nextAt (m.drop (k + 1)) = y := ⟨_, rfl⟩
      rw [hx] at HX
      rw [hy] at HY
      have HN := Lib.hid (HQ.out.symm.trans (HNX.out x y hx hy))
      clear hx hy HNX HQ
      have hs1 := hin1.adds ho1 ha
      have hs2 := hin2.adds ho2 ha
      have HS1 := Lib.hid hs1
      have HS2 := Lib.hid hs2
      obtain ⟨b1, off1, hA1, hbl1, hc1⟩ := steps_at hs1 (by omega)
      subst hA1
      obtain ⟨b2, off2, hA2, hbl2, hc2⟩ := steps_at hs2 (by omega)
      subst hA2
      obtain ⟨e1, e2⟩ := hc1 i h1
      obtain ⟨f1, f2⟩ := hc2 k h2
      have HC1 := Lib.hid hc1
      have HC2 := Lib.hid hc2
      clear hs1 hs2 hc1 hc2
      have hsl := stepD_len dd (l.getD i (0, 0)) (m.getD k (0, 0)) x y
      have HSD := Lib.hid (show stepD dd (l.getD i (0, 0)) (m.getD k (0, 0)) x y = if (l.getD i (0, 0)).2 ≠ (m.getD k (0, 0)).2 then addD dd (max (l.getD i (0, 0)).1 (m.getD k (0, 0)).1) (min x y) else dd from rfl)
      generalize stepD dd (l.getD i (0, 0)) (m.getD k (0, 0)) x y = d2 at *
      generalize l.getD i (0, 0) = a at *
      generalize m.getD k (0, 0) = b at *
      obtain ⟨a, u⟩ := a
      obtain ⟨b, z⟩ := b
      dsimp only at *
      go_wp2_with fail
      go_quiet (fail)
      go_upto_if 36 with fail
      go_cut [9] (fun v9 wq => v9 = .int .i64 x ∧ Below wr.heap.size wr wq)
      case first => as_aux_lemma =>
        by_cases q1 : i + 1 < l.length
        · have t1 : decide ((i : Int) + 1 < (l.length : Int)) = true := by simp; omega
          have E := HX.out
          rw [if_pos q1] at E
          have HE := Lib.hid E
          clear E
          obtain ⟨p1, _⟩ := HC1.out (i + 1) q1
          rw [← HE.out] at p1
          go_wp2_with fail
          go_meet
          exact ⟨rfl, below_drewN (Below.refl _ _) _⟩
        · have t1 : decide ((i : Int) + 1 < (l.length : Int)) = false := by simp; omega
          have E := HX.out
          rw [if_neg q1] at E
          have HE := Lib.hid E
          clear E
          go_wp2_with fail
          go_meet
          exact ⟨by rw [HE.out], below_drewN (Below.refl _ _) _⟩
      obtain ⟨rfl, hB1⟩ := hcut
      have HB1 := Lib.hid hB1
      clear hB1
      go_upto_if 47 with fail
      go_cut [10] (fun v10 wq => v10 = .int .i64 y ∧ Below wr.heap.size wr wq)
      case first => as_aux_lemma =>
        by_cases q1 : k + 1 < m.length
        · have t1 : decide ((k : Int) + 1 < (m.length : Int)) = true := by simp; omega
          have E := HY.out
          rw [if_pos q1] at E
          have HE := Lib.hid E
          clear E
          obtain ⟨p1, _⟩ := HC2.out (k + 1) q1
          rw [← HE.out, ← HB1.out.cell (p := ⟨b2, _, none⟩) hbl2] at p1
          go_wp2_with fail
          go_meet
          exact ⟨rfl, HB1.out⟩
        · have t1 : decide ((k : Int) + 1 < (m.length : Int)) = false := by simp; omega
          have E := HY.out
          rw [if_neg q1] at E
          have HE := Lib.hid E
          clear E
          go_wp2_with fail
          go_meet
          exact ⟨by rw [HE.out], HB1.out⟩
      clear HB1
      obtain ⟨rfl, hB1⟩ := hcut
      have hd1 := hd.below hB1
      have ha1 := ha.trans (.of_below hB1)
      rw [← hB1.cell (p := ⟨b1, _, none⟩) hbl1] at e1 e2
      rw [← hB1.cell (p := ⟨b2, _, none⟩) hbl2] at f1 f2
      clear hB1 HX HY HC1 HC2 HS1 HS2 hd ha
      have HD1 := Lib.hid hd1
      have HA1 := Lib.hid ha1
      have hbs := Nat.le_trans hb ha1.size
      clear hd1 ha1
      by_cases huz : u = z
      · have E := HSD.out
        rw [if_neg (by simpa using huz)] at E
        subst huz
        have hD4 := HD1.out
        have hA4 := HA1.out
        rw [← E] at hD4
        obtain ⟨v4, hD4, hA4⟩ : ∃ v4, DirtAt wc g base v4 d2 ∧ Adds g w wc v v4 := ⟨v', hD4, hA4⟩
        have HDA := Lib.hid (And.intro hD4 hA4)
        clear E hD4 hA4 HSD HD1 HA1
        go_wp2_with fail
        go_quiet (fail)
        have hD4 := HDA.out.1.drewN nq
        have hA4 := HDA.out.2.trans (.of_below (below_drewN (Below.refl _ _) nq))
        rcases Int.lt_trichotomy x y with g1 | g1 | g1
        · have HF := Lib.hid (by have := HN.out; rw [if_pos (show x ≤ y by omega), if_neg (show ¬ y ≤ x by omega)] at this; exact this)
          have t3 : decide (x ≤ y) = true := by simp; omega
          have t4 : decide (y ≤ x) = false := by simp; omega
          go_wp2_with fail
          go_roundg (l.length + m.length - (i + 1 + k))
          case measure => omega
          case rel => exact ⟨i + 1, k, v4, d2, rfl, by omega, by omega, by go_num, by go_num, hD4, hA4, by omega, HF.out.symm⟩
        · have HF := Lib.hid (by have := HN.out; rw [if_pos (show x ≤ y by omega), if_pos (show y ≤ x by omega)] at this; exact this)
          subst g1
          have t3 : decide (x ≤ x) = true := by simp
          go_wp2_with fail
          go_roundg (l.length + m.length - (i + 1 + k + 1))
          case measure => omega
          case rel => exact ⟨i + 1, k + 1, v4, d2, rfl, by omega, by omega, by go_num, by go_num, hD4, hA4, by omega, HF.out.symm⟩
        · have HF := Lib.hid (by have := HN.out; rw [if_neg (show ¬ x ≤ y by omega), if_pos (show y ≤ x by omega)] at this; exact this)
          have t3 : decide (x ≤ y) = false := by simp; omega
          have t4 : decide (y ≤ x) = true := by simp; omega
          go_wp2_with fail
          go_roundg (l.length + m.length - (i + k + 1))
          case measure => omega
          case rel => exact ⟨i, k + 1, v4, d2, rfl, by omega, by omega, by go_num, by go_num, hD4, hA4, by omega, HF.out.symm⟩
      · have E := HSD.out
        rw [if_pos (by simpa using huz)] at E
        have HE := Lib.hid E
        obtain ⟨a1, a2, a3⟩ := ne_facts huz
        clear E HSD huz
        go_wp2_with fail
        go_quiet (fail)
        go_wp2_with fail
        refine (dirt_add g base v' dd (max a b) (min x y) _ (HD1.out.drewN _) (by omega) hbs).mono ?_
        rintro e w4 ⟨rfl, v4, hD4, hA4⟩
        rw [← HE.out] at hD4
        have hA4 := HA1.out.trans ((Adds.of_below (below_drewN (Below.refl _ _) _)).trans hA4)
        rcases Int.lt_trichotomy x y with g1 | g1 | g1
        · have HF := Lib.hid (by have := HN.out; rw [if_pos (show x ≤ y by omega), if_neg (show ¬ y ≤ x by omega)] at this; exact this)
          have t3 : decide (x ≤ y) = true := by simp; omega
          have t4 : decide (y ≤ x) = false := by simp; omega
          go_wp2_with fail
          go_roundg (l.length + m.length - (i + 1 + k))
          case measure => omega
          case rel => exact ⟨i + 1, k, v4, d2, rfl, by omega, by omega, by go_num, by go_num, hD4, hA4, by omega, HF.out.symm⟩
        · have HF := Lib.hid (by have := HN.out; rw [if_pos (show x ≤ y by omega), if_pos (show y ≤ x by omega)] at this; exact this)
          subst g1
          have t3 : decide (x ≤ x) = true := by simp
          go_wp2_with fail
          go_roundg (l.length + m.length - (i + 1 + k + 1))
          case measure => omega
          case rel => exact ⟨i + 1, k + 1, v4, d2, rfl, by omega, by omega, by go_num, by go_num, hD4, hA4, by omega, HF.out.symm⟩
        · have HF := Lib.hid (by have := HN.out; rw [if_neg (show ¬ x ≤ y by omega), if_pos (show y ≤ x by omega)] at this; exact this)
          have t3 : decide (x ≤ y) = false := by simp; omega
          have t4 : decide (y ≤ x) = true := by simp; omega
          go_wp2_with fail
          go_roundg (l.length + m.length - (i + k + 1))
          case measure => omega
          case rel => exact ⟨i, k + 1, v4, d2, rfl, by omega, by omega, by go_num, by go_num, hD4, hA4, by omega, HF.out.symm⟩
    · have HE := Lib.hid (HQ.out.symm.trans (diff_end hlt)).symm
      by_cases h1 : i < l.length
      · obtain rfl : k = m.length := by omega
        go_wp2_with fail
        go_end0
        exact ⟨rfl, v', by rw [← HE.out]; exact hd, ha⟩
      · obtain rfl : i = l.length := by omega
        go_wp2_with fail
        go_end0
        exact ⟨rfl, v', by rw [← HE.out]; exact hd, ha⟩
end Go.Proofs.Ytifmdkcpbajdcab
