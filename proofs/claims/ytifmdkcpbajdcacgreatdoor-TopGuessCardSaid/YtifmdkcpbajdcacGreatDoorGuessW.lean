/- Walks: who asks when one would come in is told when it does. -/
import Derived.Test.YtifmdkcpbajdcacGreatDoorPrinted
set_option linter.unusedVariables false
set_option linter.unusedSimpArgs false
namespace Go.Proofs.YtifmdkcpbajdcacGreatDoor
open Go.RowKit Go.Proofs Plain

attribute [local go_sem] eq_reply

set_option maxRecDepth 100000 in
set_option maxHeartbeats 16000000 in
theorem topGuess_walk (Bt : Nat) (l : List ByteArray) (A : Option Addr) (c : Nat) (a b cc : Int) (w : World) (hL : LineAt Bt w) (hsl : StrAt w A l) (hlen : l.length ≤ maxLen) (hsz : ∀ s ∈ l, s.size ≤ maxLen) (ha : i64 a) (hb : i64 b) (hc : i64 cc) :
    Calls Tryz.prog 7 #[.slice A l.length c, .int .i64 a, .int .i64 b, .int .i64 cc] w fun e w' => e = .returned (.bool true) ∧ Below w.heap.size w w' := by
  have HW1 := Lib.hid (lim_wf (k := 1) (.inl rfl) ha hb hc)
  have HW13 := Lib.hid (lim_wf (k := 13) (.inr (.inr (.inl rfl))) ha hb hc)
  clear ha hb hc
  have hlow := texts_low hsl
  have HL := Lib.hid hL
  have HSL := Lib.hid hsl
  have HLEN := Lib.hid hlen
  have HSZ := Lib.hid hsz
  have HLOW := Lib.hid hlow
  clear hL hsl hlen hsz hlow
  go_enter Tryz.func7, Tryz.ntmps7
  go_wp2_with fail
  refine (playQ_any Bt w.heap.size (fun _ => False) l A c w HL.out HL.out.size (Nat.le_refl _) HSL.out HLOW.out HLEN.out HSZ.out (fun _ h => h.elim)).mono ?_
  rintro e w1 ⟨g, rfl, hg, hd1, hb1⟩
  have hgl := hd1.lt
  go_wp2_with fail
  refine (playQ_any Bt w.heap.size (fun b => b = g) l A c w1 (HL.out.below (hb1.mono HL.out.size)) HL.out.size hb1.size (Sl.below HSL.out hb1) HLOW.out HLEN.out HSZ.out (fun b h => by rw [h]; exact ⟨hg, hgl⟩)).mono ?_
  rintro e w2 ⟨h, rfl, hh, hd2, hb2⟩
  have hT := (twin_of HL.out hg hd1 hb1 hh hd2 hb2).pair
  clear HL HSL HLEN HSZ HLOW hgl hd1 hb1 hh hd2 hb2 hg
  have hac := behind_acts l
  have HOK := Lib.hid (behind_ok l)
  obtain ⟨d, hd⟩ : ∃ d, behind l = d := ⟨_, rfl⟩
  rw [hd] at hT HOK hac
  obtain ⟨p, was, ac⟩ := d
  have HAC := Lib.hid (show ac ≤ 80 by dsimp only at hac; omega)
  clear hac hd
  by_cases hgo : goodO ⟨13, a, b, cc⟩ = true
  · have hgo1 : goodO ⟨1, a, b, cc⟩ = true := by rw [good_three 1 a b cc (.inl rfl), ← good_three 13 a b cc (.inr (.inr rfl))]; exact hgo
    have HP13 := Lib.hid (fun W (t : LineAt Bt W) => print_good HW13.out t hgo)
    have HP1 := Lib.hid (fun W (t : LineAt Bt W) => print_good HW1.out t hgo1)
    dsimp only at HP13 HP1
    obtain ⟨hz13, hp13⟩ := printed hgo
    obtain ⟨hz1, hp1⟩ := printed hgo1
    obtain ⟨z13, hz13e⟩ : ∃ z, bs (printL ⟨13, a, b, cc⟩) = z := ⟨_, rfl⟩
    obtain ⟨z1, hz1e⟩ : ∃ z, bs (printL ⟨1, a, b, cc⟩) = z := ⟨_, rfl⟩
    unfold RetLn at HP13 HP1
    rw [hz13e] at HP13 hz13 hp13
    rw [hz1e] at HP1 hz1 hp1
    have ht1 := tell_line (d := ⟨p, was, ac⟩) (by have := HAC.out; dsimp only; omega) hp13
    have ht2 := tell_line (d := ⟨p, was, ac + 1⟩) (by have := HAC.out; dsimp only; omega) hp1
    rw [act_guess] at ht1
    rw [act_one p was 1 a b cc (by omega) (by omega)] at ht2
    dsimp only at ht1 ht2
    have HOK1 := Lib.hid (show DOk ⟨p, was, ac + 1⟩ by have := (tell_ok z13.data.toList HOK.out).1; rwa [ht1] at this)
    have HT1 := Lib.hid (fun (W : World) (t : Pair w W Bt g h ⟨p, was, ac⟩ ⟨p, was, ac⟩) => tellD_any Bt (GR (fun b => b = g) h) g ⟨p, was, ac⟩ z13 W t.one HOK.out t.line t.bt hz13 (by have := HAC.out; dsimp only; omega))
    have HT2 := Lib.hid (fun (W : World) (t : Pair w W Bt g h ⟨p, was, ac + 1⟩ ⟨p, was, ac⟩) => tellD_any Bt (GR (fun b => b = g) h) g ⟨p, was, ac + 1⟩ z1 W t.one HOK1.out t.line t.bt hz1 (by have := HAC.out; dsimp only; omega))
    have HQ := Lib.hid (fun (h : (tellL p ⟨1, a, b, cc⟩).2.2 = 0) => guess_ask HOK.out.now.good h)
    have HCT := Lib.hid (fun (h : (tellL p ⟨1, a, b, cc⟩).2.2 = 0) => come_told h)
    obtain ⟨r, hr⟩ : ∃ r, tellL p ⟨1, a, b, cc⟩ = r := ⟨_, rfl⟩
    rw [hr] at ht1 ht2 HQ HCT
    obtain ⟨PV, hPV⟩ : ∃ PV, (if r.2.2 ≠ 0 then 0 else (thePlan r.1).getD r.2.1.toNat (-1)) = PV := ⟨_, rfl⟩
    rw [hPV] at ht1
    rw [ht1] at HT1
    dsimp only at HT1
    have HPV := Lib.hid hPV
    clear hgo hgo1 hz13 hz1 hp13 hz13e hz1e hr hPV ht1
    go_wp2_with fail
    refine (HP13.out _ hT.line).mono ?_
    rintro e w3 ⟨rfl, hb3⟩
    have hT3 := hT.go hb3
    clear hT hb3 HP13
    go_wp2_with fail
    refine (HP1.out _ hT3.line).mono ?_
    rintro e w4 ⟨rfl, hb4⟩
    have hT4 := hT3.go hb4
    clear hT3 hb4 HP1
    go_wp2_with fail
    refine (HT1.out _ hT4).mono ?_
    rintro e w5 ⟨rfl, hd5, ht5⟩
    have hgl5 := hd5.lt
    have hT5 := (hT4.told hd5 ht5).go ((Below.refl _ _).alloc (Nat.le_refl _) (.cells #[.int .i64 r.2.2, .int .i64 PV] 29))
    have hR5 := RpAt.new w5 r.2.2 PV
    clear hT4 hd5 ht5 HT1
    go_wp2_with fail
    obtain ⟨W5, hW5⟩ : ∃ W5, w5.alloc (.cells #[.int .i64 r.2.2, .int .i64 PV] 29) = W5 := ⟨_, rfl⟩
    obtain ⟨kx, hkx⟩ : ∃ kx, w5.heap.size = kx := ⟨_, rfl⟩
    rw [hW5, hkx] at hR5
    rw [hkx] at hgl5
    rw [hW5] at hT5
    rw [hW5]
    try rw [hkx]
    clear hW5 hkx
    refine (sameD_any _ _ g h ⟨p, was, ac + 1⟩ ⟨p, was, ac⟩ _ hT5.one hT5.two rfl HOK1.out.now.good).mono ?_
    rintro e w6 ⟨rfl, hb6⟩
    have hT6 := hT5.go hb6
    have hR6 := hR5.below hb6 hR5.lt
    clear hT5 hb6 hR5
    obtain ⟨q, m, e⟩ := r
    dsimp only at ht2 HQ HCT HPV hR6
    go_upto_region 12 with (fail)
    by_cases he : e = 0
    · subst he
      have hct := HCT.out rfl
      have hm : m = (p.ships.length : Int) := by injection hct with _ h; injection h with h _
      rw [if_neg (by simp)] at ht2
      dsimp only at ht2
      have HOK2 := Lib.hid (show DOk ⟨nextL q, was, ac + 2⟩ by have := (tell_ok z1.data.toList HOK1.out).1; rwa [ht2] at this)
      rw [ht2] at HT2
      dsimp only at HT2
      have hm14 : 0 ≤ m ∧ m ≤ 14 := by have := HOK.out.now.good.len; rw [hm]; dsimp only at this; omega
      have hg14 : goodO ⟨14, m, 0, 0⟩ = true := (goodO_iff _).2 ⟨by dsimp only; omega, by dsimp only; omega, by simp [inLim]; omega, by show inLim 0 = true; decide, by show inLim 0 = true; decide, .inl (by show 0 < countsL.getD (14 : Int).toNat 0; decide), .inr rfl, .inr rfl⟩
      have hw14 : OrdWf ⟨14, m, 0, 0⟩ := lim_wf (.inr (.inr (.inr rfl))) (by unfold i64; omega) (by unfold i64; omega) (by unfold i64; omega)
      have HP14 := Lib.hid (fun W (t : LineAt Bt W) => print_good hw14 t hg14)
      dsimp only at HP14
      obtain ⟨hz14, hp14⟩ := printed hg14
      obtain ⟨z14, hz14e⟩ : ∃ z, bs (printL ⟨14, m, 0, 0⟩) = z := ⟨_, rfl⟩
      unfold RetLn at HP14
      rw [hz14e] at HP14 hz14 hp14
      have ht3 := tell_line (d := ⟨nextL q, was, ac + 2⟩) (by have := HAC.out; dsimp only; omega) hp14
      rw [act_ask, HQ.out rfl] at ht3
      dsimp only at ht3
      have hpv := HPV.out
      rw [if_neg (by simp)] at hpv
      rw [hpv] at ht3
      have HT3 := Lib.hid (fun (W : World) (t : Pair w W Bt g h ⟨nextL q, was, ac + 2⟩ ⟨p, was, ac⟩) => tellD_any Bt (GR (fun b => b = g) h) g ⟨nextL q, was, ac + 2⟩ z14 W t.one HOK2.out t.line t.bt hz14 (by have := HAC.out; dsimp only; omega))
      rw [ht3] at HT3
      dsimp only at HT3
      clear hct ht2 hg14 hw14 hz14 hp14 hz14e ht3 hpv HQ HCT HPV hm
      go_wp2_with fail
      refine (HT2.out _ hT6).mono ?_
      rintro e w7 ⟨rfl, hd7, ht7⟩
      have hR7 : RpAt (w7.alloc (.cells #[.int .i64 0, .int .i64 m] 29)) kx 0 PV := RpAt.alloc ((ht7.block kx hR6.lt (fun e => by injection e with e; omega)).trans hR6) _
      have hT7 := (hT6.told hd7 ht7).go ((Below.refl _ _).alloc (Nat.le_refl _) (.cells #[.int .i64 0, .int .i64 m] 29))
      have hS7 := RpAt.new w7 0 m
      obtain ⟨W7, hW7⟩ : ∃ W7, W7 = w7.alloc (.cells #[.int .i64 0, .int .i64 m] 29) := ⟨_, rfl⟩
      rw [← hW7] at hR7 hT7 hS7
      clear hT6 hR6 hd7 ht7 HT2
      go_upto_region 13 with (fail)
      rw [← hW7]
      clear hW7
      have x0 := hR7.cell0
      have y0 := hS7.cell0
      have y1 := hS7.cell1
      go_wp2_with fail
      refine (HP14.out _ hT7.line).mono ?_
      rintro e w8 ⟨rfl, hb8⟩
      have hT8 := hT7.go hb8
      have hR8 := hR7.below hb8 hR7.lt
      clear hT7 hR7 hS7 x0 y0 y1 hb8 HP14
      go_upto_region 16 with (fail)
      refine wp_region_plans (S := fun w' => RpAt w' kx 0 PV) (.take 0 (.take 1 (.take 2 (.take 3 (.take 4 (.take 6 (.one 5 (.take 7 (.take 8 (.take 9 (.fin))))))))))) (by kernel_rfl) (by kernel_rfl) hR8 ?_
      refine plan_take (v := ?_) rfl (by rfl) (fun w' hw' => ?_) ?_
      rotate_left
      · go_simp; try with_reducible rfl
      try simp only [Act.put, List.getElem_toArray, List.getElem_cons_zero, List.getElem_cons_succ, List.setIfInBounds_toArray, List.set_cons_zero, List.set_cons_succ]
      refine plan_take (v := ?_) rfl (by rfl) (fun w' hw' => ?_) ?_
      rotate_left
      · go_simp; try with_reducible rfl
      try simp only [Act.put, List.getElem_toArray, List.getElem_cons_zero, List.getElem_cons_succ, List.setIfInBounds_toArray, List.set_cons_zero, List.set_cons_succ]
      refine plan_take (v := ?_) rfl (by rfl) (fun w' hw' => ?_) ?_
      rotate_left
      · go_simp; try with_reducible rfl
      try simp only [Act.put, List.getElem_toArray, List.getElem_cons_zero, List.getElem_cons_succ, List.setIfInBounds_toArray, List.set_cons_zero, List.set_cons_succ]
      refine plan_take (v := ?_) rfl (by rfl) (fun w' hw' => ?_) ?_
      rotate_left
      · go_simp; try with_reducible rfl
      try simp only [Act.put, List.getElem_toArray, List.getElem_cons_zero, List.getElem_cons_succ, List.setIfInBounds_toArray, List.set_cons_zero, List.set_cons_succ]
      refine plan_take (v := ?_) rfl (by rfl) (fun w' hw' => ?_) ?_
      rotate_left
      · go_simp; try with_reducible rfl
      try simp only [Act.put, List.getElem_toArray, List.getElem_cons_zero, List.getElem_cons_succ, List.setIfInBounds_toArray, List.set_cons_zero, List.set_cons_succ]
      refine plan_take (v := ?_) rfl (by rfl) (fun w' hw' => ?_) ?_
      rotate_left
      · have x0 := RpAt.cell0 hw'
        have x1 := RpAt.cell1 hw'
        go_simp; try with_reducible rfl
      try simp only [Act.put, List.getElem_toArray, List.getElem_cons_zero, List.getElem_cons_succ, List.setIfInBounds_toArray, List.set_cons_zero, List.set_cons_succ]
      refine plan_one rfl (by rfl) fun K hK => ?_
      go_simp
      go_at_call 11
      refine (HT3.out _ (hT8.go (Below.refl _ _).drew)).mono ?_
      rintro e w9 ⟨rfl, hd9, ht9⟩
      have hb9 := ((hT8.go (Below.refl _ _).drew).told hd9 ht9).below
      have hR9 : RpAt w9 kx 0 PV := (ht9.block kx hR8.lt (fun e => by injection e with e; omega)).trans hR8
      refine hK.out _ _ hR9 ?_
      clear hK K
      try simp only [Act.put, List.getElem_toArray, List.getElem_cons_zero, List.getElem_cons_succ, List.setIfInBounds_toArray, List.set_cons_zero, List.set_cons_succ]
      refine plan_take (v := ?_) rfl (by rfl) (fun w' hw' => ?_) ?_
      rotate_left
      · go_simp; try with_reducible rfl
      try simp only [Act.put, List.getElem_toArray, List.getElem_cons_zero, List.getElem_cons_succ, List.setIfInBounds_toArray, List.set_cons_zero, List.set_cons_succ]
      refine plan_take (v := ?_) rfl (by rfl) (fun w' hw' => ?_) ?_
      rotate_left
      · go_simp; try with_reducible rfl
      try simp only [Act.put, List.getElem_toArray, List.getElem_cons_zero, List.getElem_cons_succ, List.setIfInBounds_toArray, List.set_cons_zero, List.set_cons_succ]
      refine plan_take (v := ?_) rfl (by rfl) (fun w' hw' => ?_) ?_
      rotate_left
      · go_simp; try with_reducible rfl
      try simp only [Act.put, List.getElem_toArray, List.getElem_cons_zero, List.getElem_cons_succ, List.setIfInBounds_toArray, List.set_cons_zero, List.set_cons_succ]
      refine plan_done (NoPanic.normal ?_)
      clear hT8 hR8 hd9 ht9 hR9 HT3
      go_wp2_with fail
      go_ret
      exact ⟨rfl, hb9⟩
    · rw [if_pos he] at ht2
      dsimp only at ht2
      rw [ht2] at HT2
      dsimp only at HT2
      have n1 : (e == 0) = false := by simpa using he
      have n2 : (e != 0) = true := by simpa using he
      clear ht2 HQ HCT HPV he
      go_wp2_with fail
      refine (HT2.out _ hT6).mono ?_
      rintro e1 w7 ⟨rfl, hd7, ht7⟩
      have hR7 : RpAt (w7.alloc (.cells #[.int .i64 e, .int .i64 0] 29)) kx e PV := RpAt.alloc ((ht7.block kx hR6.lt (fun e => by injection e with e; omega)).trans hR6) _
      have hT7 := ((hT6.told hd7 ht7).go ((Below.refl _ _).alloc (Nat.le_refl _) (.cells #[.int .i64 e, .int .i64 0] 29))).below
      have hS7 := RpAt.new w7 e 0
      obtain ⟨W7, hW7⟩ : ∃ W7, W7 = w7.alloc (.cells #[.int .i64 e, .int .i64 0] 29) := ⟨_, rfl⟩
      rw [← hW7] at hR7 hT7 hS7
      clear hT6 hR6 hd7 ht7 HT2
      go_upto_region 13 with (fail)
      rw [← hW7]
      clear hW7
      have x0 := hR7.cell0
      have y0 := hS7.cell0
      clear hR7 hS7
      go_wp2_with fail
      go_ret
      exact ⟨rfl, hT7⟩
  · have hgo1 : ¬ goodO ⟨1, a, b, cc⟩ = true := by rw [good_three 1 a b cc (.inl rfl), ← good_three 13 a b cc (.inr (.inr rfl))]; exact hgo
    have HP13 := Lib.hid (fun W (t : LineAt Bt W) => print_bad HW13.out t hgo)
    have HP1 := Lib.hid (fun W (t : LineAt Bt W) => print_bad HW1.out t hgo1)
    dsimp only at HP13 HP1
    clear hgo hgo1
    go_wp2_with fail
    refine (HP13.out _ hT.line).mono ?_
    rintro e w3 ⟨rfl, hb3⟩
    have hT3 := hT.go hb3
    clear hT hb3 HP13
    go_wp2_with fail
    refine (HP1.out _ hT3.line).mono ?_
    rintro e w4 ⟨rfl, hb4⟩
    have hB := (hT3.go hb4).below
    clear hT3 hb4 HP1
    go_wp2_with fail
    go_ret
    exact ⟨rfl, hB⟩
end Go.Proofs.YtifmdkcpbajdcacGreatDoor
