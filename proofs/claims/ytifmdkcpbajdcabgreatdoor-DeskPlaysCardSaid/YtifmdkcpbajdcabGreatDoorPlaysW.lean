/- Walks: behind each line the two desks' replies and ports are the same. -/
import Derived.Test.YtifmdkcpbajdcabGreatDoorTwoD
import Derived.Test.YtifmdkcpbajdcabGreatDoorLaidTells
set_option linter.unusedVariables false
set_option linter.unusedSimpArgs false
namespace Go.Proofs.YtifmdkcpbajdcabGreatDoor
open Go.RowKit Go.Proofs Plain
open List renaming getElem_toArray -> lsA, getElem_cons_zero -> lsB, getElem_cons_succ -> lsC, setIfInBounds_toArray -> lsD, set_cons_zero -> lsE, set_cons_succ -> lsF
open Go.Act renaming put -> aP
open Go.Lib renaming hid -> hd_
attribute [local go_sem] eq_replyP
set_option maxRecDepth 100000 in
set_option maxHeartbeats 40000000 in
theorem deskPlays_walk (Bt : Nat) (l : List ByteArray) (A0 : Option Addr) (c0 : Nat) (w : World) (hL : LineAt Bt w) (hST : SpaceTab Bt w) (hsl : StrAt w A0 l) (hlen : l.length <= maxLen) (hsz : ∀ s ∈ l, s.size <= maxLen) :
    Calls Tryz.prog 6 #[.slice A0 l.length c0] w fun e w' => e = .returned (.bool true) /\ Below w.heap.size w w' := by
  have HL := hd_ hL
  have HST := hd_ hST
  have HSL := hd_ hsl
  have HSZ := hd_ hsz
  have HBT := hd_ hL.size
  unfold maxLen at hlen
  clear hL hST hsl hsz
  go_enter Tryz.func6, Tryz.ntmps6
  go_wp2_with fail
  refine (newD_any _).mono ?_
  rintro e w2 ⟨g, rfl, hg1, hb2, hg2, hD⟩
  obtain ⟨W, hW⟩ : ∃ W, W = w2.alloc (.cells #[.int .i64 0, .slice none 0 0, .int .i64 0, .int .i64 0, .int .i64 0, .int .i64 0, .int .i64 0, .int .i64 0, .int .i64 0, .int .i64 0, .int .i64 0, .int .i64 0, .int .i64 0, .int .i64 0, .int .i64 0, .int .i64 0, .pointer none, .int .i64 0] 54) := ⟨_, rfl⟩
  have HB := hd_ (show BothAt w g w2.heap.size Desk.new W from by
    rw [hW]
    have hne : g ≠ w2.heap.size := by omega
    have hbw : Below w2.heap.size w2 (w2.alloc (.cells #[.int .i64 0, .slice none 0 0, .int .i64 0, .int .i64 0, .int .i64 0, .int .i64 0, .int .i64 0, .int .i64 0, .int .i64 0, .int .i64 0, .int .i64 0, .int .i64 0, .int .i64 0, .int .i64 0, .int .i64 0, .int .i64 0, .pointer none, .int .i64 0] 54)) := (Below.refl _ _).alloc (Nat.le_refl _) _
    refine ⟨hb2.trans (hbw.mono hb2.size), hg1, hb2.size, hne, ?_, newR w2 _ (.inr rfl) (fun b hb => by rcases hb with rfl | rfl <;> omega)⟩
    exact (hD (fun b => b = g) rfl (fun b hb => by rw [hb]; exact hg2)).join hbw (fun b hb => by rcases hb with hb | hb; exact .inl hb; exact .inr (by omega)) (.inl rfl) (fun b hb => by rw [World.size_alloc]; rcases hb with rfl | rfl <;> omega))
  obtain ⟨h, hh⟩ : ∃ h, w2.heap.size = h := ⟨_, rfl⟩
  rw [hh] at HB
  have hH := hd_ hh
  clear hD hb2 hg1 hg2 hh
  go_upto_region 4 with (fail)
  rw [<- hW]
  try rw [hH.out]
  clear hW hH
  go_wp2_with fail
  go_loopw [5] (fun x5 wr => ∃ k : Nat, k <= l.length /\ k <= 80 /\ x5 = .int .i64 k /\ BothAt w g h (playL Desk.new ((l.map (·.data.toList)).take k)) wr) (fun x5 _ => l.length - (intOf x5).toNat)
  case atStart => exact ⟨0, Nat.zero_le _, by omega, rfl, HB.out⟩
  case round =>
    clear HB
    obtain ⟨k, hk, hk80, rfl, hS⟩ := hrel
    have hok := play_ok ((l.map (·.data.toList)).take k) new_ok
    have hac := play_acts_lt (l.map (·.data.toList)) k (by omega)
    by_cases hlt : k < l.length /\ k < 80
    · obtain ⟨hlt, hlt80⟩ := hlt
      obtain ⟨bl, offl, hA, hbl0, hcl⟩ := str_at HSL.out (by omega)
      subst hA
      have y0 := (hS.below.cell (p := ⟨bl, offl + k, none⟩) hbl0).trans (hcl k hlt)
      have hsk : l[k]? = some (l.getD k ByteArray.empty) := by rw [List.getD_eq_getElem?_getD, List.getElem?_eq_getElem hlt]; rfl
      obtain ⟨s, hs⟩ : ∃ s, l.getD k ByteArray.empty = s := ⟨_, rfl⟩
      rw [hs] at y0 hsk
      have hs2 : (l.map (·.data.toList))[k]? = some s.data.toList := by rw [List.getElem?_map, hsk]; rfl
      have hpl := play_oneP _ k _ Desk.new hs2
      obtain ⟨d, hd⟩ : ∃ d, playL Desk.new ((l.map (·.data.toList)).take k) = d := ⟨_, rfl⟩
      rw [hd] at hpl hok hac hS
      have hss := HSZ.out s (List.mem_of_getElem? hsk)
      have hlow := hS.lowg
      have hlow2 := hS.lowh
      have HT := hd_ (fun W hD hL => tellD_any Bt (G2 g h) g d s W hD hok hL (Nat.le_trans HBT.out hlow) hss (by omega))
      have HR := hd_ (fun W hD hst hbt => rtellD_any Bt (G2 g h) h d s W hD hok hst hbt (Nat.le_trans HBT.out hlow2) hss hac)
      have hok2 := (tell_ok s.data.toList hok).1
      obtain ⟨CC, hCC⟩ : ∃ CC, (tellD d s.data.toList).2.1 = CC := ⟨_, rfl⟩
      obtain ⟨NN, hNN⟩ : ∃ NN, (tellD d s.data.toList).2.2 = NN := ⟨_, rfl⟩
      obtain ⟨dn, hdn⟩ : ∃ dn, (tellD d s.data.toList).1 = dn := ⟨_, rfl⟩
      rw [hCC, hNN, hdn] at HT HR
      rw [hdn] at hpl hok2
      have HPL := hd_ hpl
      have HG := hd_ hok2.now.good
      have HPO := hd_ (fun W hD => portD_any (G2 g h) g dn W hD HG.out)
      have hb0 := hS.below
      have hlw : w.heap.size <= wr.heap.size := hb0.size
      have HS := hd_ hS
      clear hpl hok hok2 hac hS hd hsk hs2 hcl hs hCC hNN hdn hlow hlow2
      have yd : wr.drew.cell? ⟨bl, offl + k, none⟩ = some (.string s) := y0
      go_wp2_with fail
      refine wRP (S := fun w' => w'.cell? ⟨bl, offl + k, none⟩ = some (.string s)) (.take 0 (.take 1 (.take 2 (.take 3 (.take 4 (.take 6 (.take 7 (.take 8 (.take 9 (.take 10 (.one 5 (.one 11 (.take 12 (.take 13 (.take 14 (.take 16 (.take 17 (.take 18 (.two 15 19 (.one 19 (.one 20 (.take 21 (.take 22 (.fin))))) (.one 15 (.one 20 (.take 21 (.take 22 (.fin)))))))))))))))))))))))) (by kernel_rfl) (by kernel_rfl) yd ?_
      iterate 4
        refine pT_ (v := ?_) rfl (by rfl) (fun w' hw' => ?_) ?_
        rotate_left
        · go_simp; try with_reducible rfl
        try simp only [aP, lsA, lsB, lsC, lsD, lsE, lsF]
      refine pT_ (v := ?_) rfl (by rfl) (fun w' hw' => ?_) ?_
      rotate_left
      · have x0 := hw'
        go_simp; try with_reducible rfl
      try simp only [aP, lsA, lsB, lsC, lsD, lsE, lsF]
      iterate 4
        refine pT_ (v := ?_) rfl (by rfl) (fun w' hw' => ?_) ?_
        rotate_left
        · go_simp; try with_reducible rfl
        try simp only [aP, lsA, lsB, lsC, lsD, lsE, lsF]
      refine pT_ (v := ?_) rfl (by rfl) (fun w' hw' => ?_) ?_
      rotate_left
      · have x0 := hw'
        go_simp; try with_reducible rfl
      try simp only [aP, lsA, lsB, lsC, lsD, lsE, lsF]
      refine pO_ rfl (by rfl) fun K hK => ?_
      go_simp
      go_at_call 11
      have hbd : Below wr.heap.size wr wr.drew := (Below.refl _ _).drew
      refine (HT.out _ (HS.out.desk.below hbd) ((HL.out.below (hb0.mono HBT.out)).below (hbd.mono (Nat.le_trans HBT.out hlw)))).mono ?_
      rintro e1 w3 ⟨rfl, hd3, ht3⟩
      have hT3 : Tn g wr w3 := ⟨ht3.os, ht3.tape, ht3.output, ht3.size, ht3.block⟩
      have hR3 := HS.out.ref.beside hT3 (Ne.symm HS.out.ne) (.inl rfl)
      have hb3 : Below w.heap.size w w3 := hb0.trans (hT3.below HS.out.lowg hlw)
      have y3 : w3.cell? ⟨bl, offl + k, none⟩ = some (.string s) := ((hT3.below HS.out.lowg hlw).cell (p := ⟨bl, offl + k, none⟩) hbl0).trans y0
      refine hK.out _ _ y3 ?_
      clear hK K
      try simp only [aP, lsA, lsB, lsC, lsD, lsE, lsF]
      refine pO_ rfl (by rfl) fun K hK => ?_
      go_simp
      go_at_call 19
      have hz3 : w.heap.size <= w3.heap.size := hb3.size
      refine (HR.out _ hR3 (Lib.TabBelow.on HST.out (hb3.mono HBT.out)) (Nat.le_trans HBT.out hz3)).mono ?_
      rintro e2 w4 ⟨rfl, hd4, ht4⟩
      have hb34 := ht4.below HS.out.lowh hz3
      have y4 : w4.cell? ⟨bl, offl + k, none⟩ = some (.string s) := (hb34.cell (p := ⟨bl, offl + k, none⟩) hbl0).trans y3
      have hB4 : BothAt w g h dn w4 := ⟨hb3.trans hb34, HS.out.lowg, HS.out.lowh, HS.out.ne, hd3.beside ht4 HS.out.ne (.inr rfl), hd4⟩
      refine hK.out _ _ y4 ?_
      clear hK K HS hT3 hR3 hd3 ht3 hd4 ht4 hb34 HT HR
      obtain ⟨A, c, K0, v2, v3, v4, v5, v6, v7, v8, v9, v10, v11, v12, v13, v14, v15, hv, hrb, hc, hrA, -⟩ := hB4.ref.at_
      have hSM := fun A5 c5 W h1 h2 => samePort_any dn.p A5 A c5 c W h1 h2 (by have := HG.out.len; omega)
      rw [hv] at hSM
      have HSM := hd_ hSM
      have hi4 : InP w4 dn.p A := hrA.1
      have hgl4 := hB4.ref.lt
      have hbl4 : bl < w4.heap.size := Nat.lt_of_lt_of_le hbl0 hB4.below.size
      clear hSM hv hrA
      try simp only [aP, lsA, lsB, lsC, lsD, lsE, lsF]
      iterate 6
        refine pT_ (v := ?_) rfl (by rfl) (fun w' hw' => ?_) ?_
        rotate_left
        · go_simp; try with_reducible rfl
        try simp only [aP, lsA, lsB, lsC, lsD, lsE, lsF]
      refine plan_two ?_ ?_
      · as_aux_lemma =>
        refine pO_ rfl (by rfl) fun K hK => ?_
        go_simp
        go_at_call 12
        refine (HPO.out _ hB4.desk).mono ?_
        rintro e w7 ⟨A5, c5, rfl, ho5, hb7⟩
        have HB7 := hd_ (hB4.go hb7)
        have y7 : w7.cell? ⟨bl, offl + k, none⟩ = some (.string s) := (hb7.cell (p := ⟨bl, offl + k, none⟩) hbl4).trans y4
        have hbl7 : bl < w7.heap.size := Nat.lt_of_lt_of_le hbl4 hb7.size
        have hrb7 := RkBox.below hrb hb7 hgl4
        have HI5 := hd_ (show InP w7 dn.p A5 from Sl.of_own ho5)
        have HI6 := hd_ (show InP w7 dn.p A from Sl.below hi4 hb7)
        refine hK.out _ _ y7 ?_
        clear hK K ho5
        try simp only [aP, lsA, lsB, lsC, lsD, lsE, lsF]
        refine pO_ rfl (by rfl) fun K hK => ?_
        refine oper_load_rk rfl (by first | rfl | simp [Act.eval, aP]) hrb7 ?_
        refine hK.out _ _ y7 ?_
        clear hK K
        try simp only [aP, lsA, lsB, lsC, lsD, lsE, lsF]
        refine pO_ rfl (by rfl) fun K hK => ?_
        go_simp
        go_at_call 17
        refine (HSM.out A5 c5 _ HI5.out HI6.out).mono ?_
        rintro e w8 ⟨rfl, hb8⟩
        have HN := hd_ (HB7.out.go hb8)
        refine hK.out _ _ ((hb8.cell (p := ⟨bl, offl + k, none⟩) hbl7).trans y7) ?_
        clear hK K
        try simp only [aP, lsA, lsB, lsC, lsD, lsE, lsF]
        iterate 2
          refine pT_ (v := ?_) rfl (by rfl) (fun w' hw' => ?_) ?_
          rotate_left
          · go_simp; try with_reducible rfl
          try simp only [aP, lsA, lsB, lsC, lsD, lsE, lsF]
        refine pD_ (NoPanic.normal ?_)
        clear HB7 HI5 HI6 y7
        go_wp2_with fail
        go_roundw
        case rel => exact ⟨k + 1, by omega, by omega, by go_num, by rw [HPL.out]; exact HN.out⟩
        case measure => simp [intOf] <;> omega
      · as_aux_lemma =>
        refine pO_ rfl (by rfl) fun K hK => ?_
        refine oper_load_rk rfl (by first | rfl | simp [Act.eval, aP]) hrb ?_
        refine hK.out _ _ y4 ?_
        clear hK K
        try simp only [aP, lsA, lsB, lsC, lsD, lsE, lsF]
        refine pO_ rfl (by rfl) fun K hK => ?_
        go_simp
        go_at_call 12
        refine (HPO.out _ hB4.desk).mono ?_
        rintro e w7 ⟨A5, c5, rfl, ho5, hb7⟩
        have HB7 := hd_ (hB4.go hb7)
        have y7 : w7.cell? ⟨bl, offl + k, none⟩ = some (.string s) := (hb7.cell (p := ⟨bl, offl + k, none⟩) hbl4).trans y4
        have hbl7 : bl < w7.heap.size := Nat.lt_of_lt_of_le hbl4 hb7.size
        have HI5 := hd_ (show InP w7 dn.p A5 from Sl.of_own ho5)
        have HI6 := hd_ (show InP w7 dn.p A from Sl.below hi4 hb7)
        refine hK.out _ _ y7 ?_
        clear hK K ho5
        try simp only [aP, lsA, lsB, lsC, lsD, lsE, lsF]
        refine pO_ rfl (by rfl) fun K hK => ?_
        go_simp
        go_at_call 17
        refine (HSM.out A5 c5 _ HI5.out HI6.out).mono ?_
        rintro e w8 ⟨rfl, hb8⟩
        have HN := hd_ (HB7.out.go hb8)
        refine hK.out _ _ ((hb8.cell (p := ⟨bl, offl + k, none⟩) hbl7).trans y7) ?_
        clear hK K
        try simp only [aP, lsA, lsB, lsC, lsD, lsE, lsF]
        iterate 2
          refine pT_ (v := ?_) rfl (by rfl) (fun w' hw' => ?_) ?_
          rotate_left
          · go_simp; try with_reducible rfl
          try simp only [aP, lsA, lsB, lsC, lsD, lsE, lsF]
        refine pD_ (NoPanic.normal ?_)
        clear HB7 HI5 HI6 y7
        go_wp2_with fail
        go_roundw
        case rel => exact ⟨k + 1, by omega, by omega, by go_num, by rw [HPL.out]; exact HN.out⟩
        case measure => simp [intOf] <;> omega
    · have HS := hd_ hS
      obtain ⟨d, hd⟩ : ∃ d, playL Desk.new ((l.map (·.data.toList)).take k) = d := ⟨_, rfl⟩
      rw [hd] at hok HS
      have HG := hd_ hok.now.good
      have HPD := hd_ (fun W hD => planD_any (G2 g h) g d W hD HG.out)
      obtain ⟨A, c, K0, v2, v3, v4, v5, v6, v7, v8, v9, v10, v11, v12, v13, v14, v15, hv, hrb, hc, hrA, -⟩ := HS.out.ref.at_
      have hPF := fun W hi => planOf_any d.p A c W HG.out (rankL d.p) (rankL_is HG.out) (rank_len d.p) hi
      rw [hv] at hPF
      have HPF := hd_ hPF
      have HLN := hd_ (show (thP d.p).length <= 100000 by rw [plan_len HG.out]; have := HG.out.len; omega)
      have hi : InP wr d.p A := hrA.1
      have hrbd : RkBox wr.drew h _ := hrb
      have hbe := hS.below
      clear hS hok hac hd hPF hv hrA
      by_cases hk2 : k < l.length
      · obtain rfl : k = 80 := by omega
        go_wp2_with fail
        refine wRP (S := fun w' => RkBox w' h #[.int .i64 d.p.now, .slice A d.p.ships.length c, v2, v3, v4, v5, v6, v7, v8, v9, v10, v11, v12, v13, v14, v15, .pointer K0, .int .i64 d.acts]) (.take 0 (.take 2 (.take 3 (.take 4 (.take 5 (.one 1 (.one 6 (.one 7 (.take 8 (.fin)))))))))) (by kernel_rfl) (by kernel_rfl) hrbd ?_
        iterate 4
          refine pT_ (v := ?_) rfl (by rfl) (fun w' hw' => ?_) ?_
          rotate_left
          · go_simp; try with_reducible rfl
          try simp only [aP, lsA, lsB, lsC, lsD, lsE, lsF]
        refine pT_ rfl (by rfl) (fun w' hw' => exec_load_rk rfl rfl hw') ?_
        try simp only [aP, lsA, lsB, lsC, lsD, lsE, lsF]
        refine pO_ rfl (by rfl) fun K hK => ?_
        go_simp
        go_at_call 13
        refine (HPD.out _ (HS.out.desk.below (Below.refl _ _).drew)).mono ?_
        rintro e w3 ⟨A3, c3, rfl, ho3, hb3⟩
        have hB3 : Below wr.heap.size wr w3 := bUn hb3
        refine hK.out _ _ (RkBox.below hrb hB3 hrb.lt) ?_
        clear hK K
        try simp only [aP, lsA, lsB, lsC, lsD, lsE, lsF]
        refine pO_ rfl (by rfl) fun K hK => ?_
        go_simp
        go_at_call 22
        refine (HPF.out _ (Sl.below hi hB3)).mono ?_
        rintro e w4 ⟨A4, c4, rfl, hs4, hb4, _⟩
        have hB4 := bG_ hB3 hb4
        refine hK.out _ _ (RkBox.below hrb hB4 hrb.lt) ?_
        clear hK K
        try simp only [aP, lsA, lsB, lsC, lsD, lsE, lsF]
        refine pO_ rfl (by rfl) fun K hK => ?_
        go_simp
        go_at_call 21
        refine (sameInts_any (thP d.p) (thP d.p) A3 A4 c3 c4 _ (Sl.below (Sl.of_own ho3) hb4) hs4 HLN.out HLN.out).mono ?_
        rintro e w5 ⟨rfl, hb5⟩
        rw [show decide (thP d.p = thP d.p) = true by simp]
        have hB5 := bG_ hbe (bG_ hB4 hb5)
        refine hK.out _ _ (RkBox.below hrb (bG_ hB4 hb5) hrb.lt) ?_
        clear hK K
        try simp only [aP, lsA, lsB, lsC, lsD, lsE, lsF]
        refine pT_ (v := ?_) rfl (by rfl) (fun w' hw' => ?_) ?_
        rotate_left
        · go_simp; try with_reducible rfl
        try simp only [aP, lsA, lsB, lsC, lsD, lsE, lsF]
        refine pD_ (NoPanic.normal ?_)
        go_wp2_with fail
        go_ret
        exact ⟨rfl, hB5⟩
      · obtain rfl : k = l.length := by omega
        go_wp2_with fail
        refine wRP (S := fun w' => RkBox w' h #[.int .i64 d.p.now, .slice A d.p.ships.length c, v2, v3, v4, v5, v6, v7, v8, v9, v10, v11, v12, v13, v14, v15, .pointer K0, .int .i64 d.acts]) (.take 0 (.take 2 (.take 3 (.take 4 (.take 5 (.one 1 (.one 6 (.one 7 (.take 8 (.fin)))))))))) (by kernel_rfl) (by kernel_rfl) hrbd ?_
        iterate 4
          refine pT_ (v := ?_) rfl (by rfl) (fun w' hw' => ?_) ?_
          rotate_left
          · go_simp; try with_reducible rfl
          try simp only [aP, lsA, lsB, lsC, lsD, lsE, lsF]
        refine pT_ rfl (by rfl) (fun w' hw' => exec_load_rk rfl rfl hw') ?_
        try simp only [aP, lsA, lsB, lsC, lsD, lsE, lsF]
        refine pO_ rfl (by rfl) fun K hK => ?_
        go_simp
        go_at_call 13
        refine (HPD.out _ (HS.out.desk.below (Below.refl _ _).drew)).mono ?_
        rintro e w3 ⟨A3, c3, rfl, ho3, hb3⟩
        have hB3 : Below wr.heap.size wr w3 := bUn hb3
        refine hK.out _ _ (RkBox.below hrb hB3 hrb.lt) ?_
        clear hK K
        try simp only [aP, lsA, lsB, lsC, lsD, lsE, lsF]
        refine pO_ rfl (by rfl) fun K hK => ?_
        go_simp
        go_at_call 22
        refine (HPF.out _ (Sl.below hi hB3)).mono ?_
        rintro e w4 ⟨A4, c4, rfl, hs4, hb4, _⟩
        have hB4 := bG_ hB3 hb4
        refine hK.out _ _ (RkBox.below hrb hB4 hrb.lt) ?_
        clear hK K
        try simp only [aP, lsA, lsB, lsC, lsD, lsE, lsF]
        refine pO_ rfl (by rfl) fun K hK => ?_
        go_simp
        go_at_call 21
        refine (sameInts_any (thP d.p) (thP d.p) A3 A4 c3 c4 _ (Sl.below (Sl.of_own ho3) hb4) hs4 HLN.out HLN.out).mono ?_
        rintro e w5 ⟨rfl, hb5⟩
        rw [show decide (thP d.p = thP d.p) = true by simp]
        have hB5 := bG_ hbe (bG_ hB4 hb5)
        refine hK.out _ _ (RkBox.below hrb (bG_ hB4 hb5) hrb.lt) ?_
        clear hK K
        try simp only [aP, lsA, lsB, lsC, lsD, lsE, lsF]
        refine pT_ (v := ?_) rfl (by rfl) (fun w' hw' => ?_) ?_
        rotate_left
        · go_simp; try with_reducible rfl
        try simp only [aP, lsA, lsB, lsC, lsD, lsE, lsF]
        refine pD_ (NoPanic.normal ?_)
        go_wp2_with fail
        go_ret
        exact ⟨rfl, hB5⟩
end Go.Proofs.YtifmdkcpbajdcabGreatDoor
