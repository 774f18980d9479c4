/- Walks: an order's line is read as it; what is printed of what was read is read as the same. -/
import Derived.Test.YtifmdkcpbajdcaaDoorLines
namespace Go.Proofs.YtifmdkcpbajdcaaDoor
open Go.RowKit Go.Proofs Plain

theorem print_parse (o : Order) {z : ByteArray} (hz : z = if goodO o = true then bs (printL o) else ByteArray.empty) : z.size ≤ maxLen ∧ (goodO o = true → parseL z.data.toList = some o) := by
  by_cases h : goodO o = true
  · rw [if_pos h] at hz
    subst hz
    refine ⟨?_, fun _ => by rw [bs_list]; exact parse_print h⟩
    have := print_len h
    show (printL o).length ≤ maxLen
    unfold maxLen; omega
  · rw [if_neg h] at hz
    subst hz
    exact ⟨by unfold maxLen; decide, fun h2 => absurd h2 h⟩

theorem parse_wf {s : Txt} : OrdWf (oOf (parseL s)) := by
  cases h : parseL s with
  | none => exact ⟨by decide, by decide, by decide, by decide⟩
  | some o =>
    obtain ⟨h1, h2, ha, hb, hc, _⟩ := (goodO_iff o).1 (parse_good h)
    simp only [inLim, Bool.and_eq_true, decide_eq_true_eq] at ha hb hc
    exact ⟨⟨by show _ ≤ o.kind; omega, by show o.kind ≤ _; omega⟩, ⟨by show _ ≤ o.a; omega, by show o.a ≤ _; omega⟩, ⟨by show _ ≤ o.b; omega, by show o.b ≤ _; omega⟩, ⟨by show _ ≤ o.c; omega, by show o.c ≤ _; omega⟩⟩

/-- What stands while the law asks: two orders' variables. -/
structure LB (B : Nat) (w wr : World) : Prop where
  line : LineAt B wr
  below : Below w.heap.size w wr
theorem LB.go {B : Nat} {w wr w' : World} (h : LB B w wr) (hb : Below wr.heap.size wr w') : LB B w w' := ⟨h.line.below (hb.mono h.line.size), below_line h.below hb⟩

set_option maxRecDepth 100000 in
set_option maxHeartbeats 16000000 in
theorem lineBack_walk (B : Nat) (o : Order) (s : ByteArray) (w : World) (ho : OrdWf o) (hs : s.size ≤ maxLen) (hL : LineAt B w) :
    Calls Tryd.prog 3 #[.agg (ordA o), .string s] w fun e w' => e = .returned (.bool true) ∧ Below w.heap.size w w' := by
  have HWF := Lib.hid (parse_wf (s := s.data.toList))
  have HPS := Lib.hid (fun w h => parse_any B s w h hs)
  obtain ⟨r, hr⟩ : ∃ r, parseL s.data.toList = r := ⟨_, rfl⟩
  rw [hr] at HPS HWF
  have HG2 := Lib.hid (fun q (h : r = some q) => parse_good (hr.trans h))
  have hX0 : LB B w (w.alloc (.cells (ordA o) 23)) := by
    have hB0 : Below w.heap.size w (w.alloc (.cells (ordA o) 23)) := (Below.refl _ _).alloc (Nat.le_refl _) _
    exact ⟨hL.below (hB0.mono hL.size), hB0⟩
  have hO0 := OrdAt.new w o
  have HPR := Lib.hid (fun w h => print_any B o w ho h)
  have HLN := Lib.hid (fun w h => linesKeep_any B w h)
  clear hr hL ho hs
  obtain ⟨kd, a, b, c⟩ := o
  simp only [ordA] at hX0 ⊢
  have HPR2 := Lib.hid (show ∀ w, LineAt B w → Calls Tryd.prog 4 #[.agg #[.int .i64 kd, .int .i64 a, .int .i64 b, .int .i64 c]] w (RetPrint ⟨kd, a, b, c⟩ w) from HPR.out)
  clear HPR
  obtain ⟨g, hg⟩ : ∃ g, goodO ⟨kd, a, b, c⟩ = g := ⟨_, rfl⟩
  have HGG := Lib.hid hg
  clear hg
  go_enter Tryd.func3, Tryd.ntmps3
  go_wp2_with fail
  refine (HPR2.out _ hX0.line).mono ?_
  rintro e w1 ⟨z, rfl, hz, hb1⟩
  rw [HGG.out]
  obtain ⟨hz1, hz2⟩ := print_parse _ hz
  have HZ := Lib.hid hz2
  have hX1 := hX0.go hb1
  have hO1 := hO0.below hb1 hO0.lt
  have hlt := hO1.lt
  clear hz hz2 hX0 hO0 hb1
  cases g with
  | false =>
    simp only [Bool.false_eq_true, if_false]
    go_wp2_with fail
    refine (parse_any B z _ hX1.line hz1).mono ?_
    obtain ⟨q, hq⟩ : ∃ q, parseL z.data.toList = q := ⟨_, rfl⟩
    rw [hq]
    obtain ⟨y, hy⟩ : ∃ y, oOf q = y := ⟨_, rfl⟩
    obtain ⟨ey, hey⟩ : ∃ ey, eOf q = ey := ⟨_, rfl⟩
    rintro e w2 ⟨rfl, hb2⟩
    rw [hy, hey]
    obtain ⟨y0, y1, y2, y3⟩ := y
    have hX3 := (hX1.go hb2).go ((Below.refl _ _).alloc (Nat.le_refl _) (.cells (ordA ⟨y0, y1, y2, y3⟩) 23))
    simp only [ordA] at hX3 ⊢
    clear hX1 hO1 hq hy hey HZ hb2 hlt hz1
    go_wp2_with fail
    refine (HPS.out _ hX3.line).mono ?_
    rintro e w4 ⟨rfl, hb4⟩
    have hX4 := hX3.go hb4
    clear hX3 hb4
    cases r with
    | none =>
      clear HG2
      have hX5 := hX4.go ((Below.refl _ _).alloc (Nat.le_refl _) (.cells (ordA noO) 23))
      have hpr := print_any B noO _ ⟨by decide, by decide, by decide, by decide⟩ hX5.line
      simp only [oOf, eOf, Option.getD_none, Option.isSome_none, ordA, noO] at hX5 hpr ⊢
      have HPX := Lib.hid hpr
      clear hpr
      go_wp2_with fail
      refine HPX.out.mono ?_
      rintro e w6 ⟨z2, rfl, hz2, hb6⟩
      have hX6 := hX5.go hb6
      obtain ⟨hz21, _⟩ := print_parse _ hz2
      clear hX5 hb6 hX4 hz2
      go_wp2_with fail
      refine (parse_any B z2 _ hX6.line hz21).mono ?_
      obtain ⟨q2, hq2⟩ : ∃ q2, parseL z2.data.toList = q2 := ⟨_, rfl⟩
      rw [hq2]
      obtain ⟨y, hy⟩ : ∃ y, oOf q2 = y := ⟨_, rfl⟩
      obtain ⟨ey, hey⟩ : ∃ ey, eOf q2 = ey := ⟨_, rfl⟩
      rintro e w7 ⟨rfl, hb7⟩
      rw [hy, hey]
      obtain ⟨y0, y1, y2, y3⟩ := y
      have hX7 := (hX6.go hb7).go ((Below.refl _ _).alloc (Nat.le_refl _) (.cells (ordA ⟨y0, y1, y2, y3⟩) 23))
      simp only [ordA] at hX7 ⊢
      clear hq2 hy hey hX6 hb7
      go_wp2_with (go_at_call 6; refine (HLN.out _ hX7.line).mono ?_; rintro e w8 ⟨rfl, hb8⟩)
      go_ret
      exact ⟨rfl, (hX7.go hb8).below⟩
    | some q2 =>
      have hg2 := HG2.out q2 rfl
      have hX5 := hX4.go ((Below.refl _ _).alloc (Nat.le_refl _) (.cells (ordA q2) 23))
      have hQ5 := OrdAt.new w4 q2
      have hwf2 := HWF.out
      simp only [oOf, Option.getD_some] at hwf2
      have hpr := print_any B q2 _ hwf2 hX5.line
      have HGQ := Lib.hid hg2
      obtain ⟨y0, y1, y2, y3⟩ := q2
      clear hg2 HG2 HWF hwf2
      simp only [oOf, eOf, Option.getD_some, Option.isSome_some, if_true, ordA] at hX5 hpr ⊢
      have HPX := Lib.hid hpr
      clear hpr
      go_wp2_with fail
      refine HPX.out.mono ?_
      rintro e w6 ⟨z2, rfl, hz2, hb6⟩
      have hX6 := hX5.go hb6
      have hQ6 := hQ5.below hb6 hQ5.lt
      obtain ⟨hz21, hz22⟩ := print_parse _ hz2
      have HP2 := Lib.hid (hz22 HGQ.out)
      rw [HGQ.out]
      clear hX5 hb6 hX4 hz2 hz22 hQ5
      simp only [if_true]
      go_wp2_with fail
      refine (parse_any B z2 _ hX6.line hz21).mono ?_
      rw [HP2.out]
      rintro e w7 ⟨rfl, hb7⟩
      have hX7 := (hX6.go hb7).go ((Below.refl _ _).alloc (Nat.le_refl _) (.cells (ordA ⟨y0, y1, y2, y3⟩) 23))
      have hQ7 := (hQ6.below hb7 hQ6.lt).alloc (.cells (ordA ⟨y0, y1, y2, y3⟩) 23)
      have hY7 := OrdAt.new w7 ⟨y0, y1, y2, y3⟩
      obtain ⟨_, _, _, _, m0, m1, m2, m3⟩ := hQ7.facts
      obtain ⟨_, _, _, _, n0, n1, n2, n3⟩ := hY7.facts
      simp only [oOf, eOf, Option.getD_some, Option.isSome_some, if_true, ordA] at hX7 m0 m1 m2 m3 n0 n1 n2 n3 ⊢
      clear hX6 hb7 hQ6 hQ7 hY7
      go_wp2_with (go_at_call 6; refine (HLN.out _ hX7.line).mono ?_; rintro e w8 ⟨rfl, hb8⟩)
      go_ret
      exact ⟨rfl, (hX7.go hb8).below⟩
  | true =>
    simp only [if_true]
    go_wp2_with fail
    refine (parse_any B z _ hX1.line hz1).mono ?_
    rw [HZ.out HGG.out]
    rintro e w2 ⟨rfl, hb2⟩
    have hX3 := (hX1.go hb2).go ((Below.refl _ _).alloc (Nat.le_refl _) (.cells (ordA ⟨kd, a, b, c⟩) 23))
    have hO3 := (hO1.below hb2 hlt).alloc (.cells (ordA ⟨kd, a, b, c⟩) 23)
    have hQ3 := OrdAt.new w2 ⟨kd, a, b, c⟩
    obtain ⟨_, _, _, _, g0, g1, g2, g3⟩ := hO3.facts
    obtain ⟨_, _, _, _, p0, p1, p2, p3⟩ := hQ3.facts
    simp only [oOf, eOf, Option.getD_some, Option.isSome_some, if_true, ordA] at hX3 g0 g1 g2 g3 p0 p1 p2 p3 ⊢
    clear hX1 hO1 HZ hb2 hlt hz1 hO3 hQ3
    go_wp2_with fail
    refine (HPS.out _ hX3.line).mono ?_
    rintro e w4 ⟨rfl, hb4⟩
    have hX4 := hX3.go hb4
    clear hX3 hb4
    cases r with
    | none =>
      clear HG2
      have hX5 := hX4.go ((Below.refl _ _).alloc (Nat.le_refl _) (.cells (ordA noO) 23))
      have hpr := print_any B noO _ ⟨by decide, by decide, by decide, by decide⟩ hX5.line
      simp only [oOf, eOf, Option.getD_none, Option.isSome_none, ordA, noO] at hX5 hpr ⊢
      have HPX := Lib.hid hpr
      clear hpr
      go_wp2_with fail
      refine HPX.out.mono ?_
      rintro e w6 ⟨z2, rfl, hz2, hb6⟩
      have hX6 := hX5.go hb6
      obtain ⟨hz21, _⟩ := print_parse _ hz2
      clear hX5 hb6 hX4 hz2
      go_wp2_with fail
      refine (parse_any B z2 _ hX6.line hz21).mono ?_
      obtain ⟨q2, hq2⟩ : ∃ q2, parseL z2.data.toList = q2 := ⟨_, rfl⟩
      rw [hq2]
      obtain ⟨y, hy⟩ : ∃ y, oOf q2 = y := ⟨_, rfl⟩
      obtain ⟨ey, hey⟩ : ∃ ey, eOf q2 = ey := ⟨_, rfl⟩
      rintro e w7 ⟨rfl, hb7⟩
      rw [hy, hey]
      obtain ⟨y0, y1, y2, y3⟩ := y
      have hX7 := (hX6.go hb7).go ((Below.refl _ _).alloc (Nat.le_refl _) (.cells (ordA ⟨y0, y1, y2, y3⟩) 23))
      simp only [ordA] at hX7 ⊢
      clear hq2 hy hey hX6 hb7
      go_wp2_with (go_at_call 6; refine (HLN.out _ hX7.line).mono ?_; rintro e w8 ⟨rfl, hb8⟩)
      go_ret
      exact ⟨rfl, (hX7.go hb8).below⟩
    | some q2 =>
      have hg2 := HG2.out q2 rfl
      have hX5 := hX4.go ((Below.refl _ _).alloc (Nat.le_refl _) (.cells (ordA q2) 23))
      have hQ5 := OrdAt.new w4 q2
      have hwf2 := HWF.out
      simp only [oOf, Option.getD_some] at hwf2
      have hpr := print_any B q2 _ hwf2 hX5.line
      have HGQ := Lib.hid hg2
      obtain ⟨y0, y1, y2, y3⟩ := q2
      clear hg2 HG2 HWF hwf2
      simp only [oOf, eOf, Option.getD_some, Option.isSome_some, if_true, ordA] at hX5 hpr ⊢
      have HPX := Lib.hid hpr
      clear hpr
      go_wp2_with fail
      refine HPX.out.mono ?_
      rintro e w6 ⟨z2, rfl, hz2, hb6⟩
      have hX6 := hX5.go hb6
      have hQ6 := hQ5.below hb6 hQ5.lt
      obtain ⟨hz21, hz22⟩ := print_parse _ hz2
      have HP2 := Lib.hid (hz22 HGQ.out)
      rw [HGQ.out]
      clear hX5 hb6 hX4 hz2 hz22 hQ5
      simp only [if_true]
      go_wp2_with fail
      refine (parse_any B z2 _ hX6.line hz21).mono ?_
      rw [HP2.out]
      rintro e w7 ⟨rfl, hb7⟩
      have hX7 := (hX6.go hb7).go ((Below.refl _ _).alloc (Nat.le_refl _) (.cells (ordA ⟨y0, y1, y2, y3⟩) 23))
      have hQ7 := (hQ6.below hb7 hQ6.lt).alloc (.cells (ordA ⟨y0, y1, y2, y3⟩) 23)
      have hY7 := OrdAt.new w7 ⟨y0, y1, y2, y3⟩
      obtain ⟨_, _, _, _, m0, m1, m2, m3⟩ := hQ7.facts
      obtain ⟨_, _, _, _, n0, n1, n2, n3⟩ := hY7.facts
      simp only [oOf, eOf, Option.getD_some, Option.isSome_some, if_true, ordA] at hX7 m0 m1 m2 m3 n0 n1 n2 n3 ⊢
      clear hX6 hb7 hQ6 hQ7 hY7
      go_wp2_with (go_at_call 6; refine (HLN.out _ hX7.line).mono ?_; rintro e w8 ⟨rfl, hb8⟩)
      go_ret
      exact ⟨rfl, (hX7.go hb8).below⟩
end Go.Proofs.YtifmdkcpbajdcaaDoor
