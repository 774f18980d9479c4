/- Walks: what is free of what lies, is kept and is shut. -/
import Derived.Test.YtifmdkcpbajdcabGreatDoorPlain
import Derived.Test.YtifmdkcpbajdcabGreatDoorPortA
import Derived.Test.YtifmdkcpbajdcabGreatDoorSpanB
import Derived.Deep.DeepCutAuto
import Derived.Deep.RegionWith
set_option linter.unusedVariables false
set_option linter.unusedSimpArgs false
namespace Go.Proofs.YtifmdkcpbajdcabGreatDoor
open Go.RowKit Go.Proofs Plain
open Go.Lib renaming hid -> hd_
theorem good_max {l : Prof} (h : Plain.Good l) : l.length <= maxLen := by have := (good_len h).2; unfold maxLen; omega
theorem fr_or {A A0 : Option Addr} {n m : Nat} (h : A = A0 \/ Fr n A) (h0 : Fr m A0) (hm : m <= n) : Fr m A := by
  rcases h with rfl | h
  · exact h0
  · exact h.mono hm
set_option maxRecDepth 100000 in
set_option maxHeartbeats 20000000 in
theorem base_fr (p : Port) (A : Option Addr) (c : Nat) (w : World) (hf : Plain.Fair p) (hin : InP w p A) :
    Calls Tryz.prog 56 #[.agg (portA p A c)] w (RetPairB (baseL p) w) := by
  have hn := hf.now
  have hsh := hf.shut
  have hlen := hf.len
  have H0 := hd_ (show base1 p 0 = takeL newL 0 300 p.shut by unfold base1; rw [List.take_zero]; rfl)
  have hg0 : (base1 p 0).1.length <= maxLen := good_max (base1_good p 0)
  have HSHIP := hd_ hf.ship
  have HF := hd_ hf.four
  have hmn : newL.length <= maxLen := by unfold maxLen; decide
  obtain ⟨n0, n1⟩ := hn
  obtain ⟨s0, s1⟩ := hsh
  simp only [portA]
  go_enter Tryz.func56, Tryz.ntmps56
  go_upto_region 1 with fail
  go_cut [4, 5] (fun x4 x5 wx => ∃ A1 c1, x4 = .slice A1 (base1 p 0).1.length c1 /\ x5 = .bool (base1 p 0).2 /\ Sl wx 2 A1 (base1 p 0).1.length (stC (base1 p 0).1) /\ Fr w.heap.size A1 /\ PortAt wx w.heap.size p A c /\ Below w.heap.size w wx)
  case first =>
    go_region_with (first
      | (go_at_call 86; refine (new_fr _).mono ?_; rintro e w1 ⟨A1, c1, rfl, h1, hb1, hr1⟩; have hs1 : w1.cell? ⟨w.heap.size, 14, none⟩ = some (.int .i64 p.shut) := (hb1.cell (p := ⟨w.heap.size, 14, none⟩) (by simp)).trans (by simp))
      | (go_at_call 81; refine (take_fr newL A1 c1 0 300 p.shut w1 h1 hmn).mono ?_; rintro e w2 ⟨A2, c2, rfl, h2, hb2, hfr2⟩))
    all_goals
      have hb0 : Below w.heap.size w (w.alloc (.cells (portA p A c) 36)) := (Below.refl _ _).alloc (Nat.le_refl _) _
      have hbu := bUn hb1
      have hbA := bG_ hb0 hbu
      have hp1 : PortAt w1 w.heap.size p A c := PortAt.below (PortAt.new w p A c) hbu (by simp)
      have hp2 := hp1.below hb2 hp1.lt
      have hbB := bG_ hbA hb2
      go_wp2_with fail
      go_meet
      exact ⟨A2, c2, by rw [H0.out], by rw [H0.out], by rw [H0.out]; exact h2, fr_or hfr2 (hr1.mono (by simp)) (by have := hbu.size; simp at this; omega), hp2, hbB⟩
  case rest =>
    obtain ⟨A1, c1, rfl, rfl, hS, hR, hP, hB⟩ := hcut
    have hp1 := hP.ships
    go_wp2_with fail
    go_loopw [21, 4, 5] (fun i x4 x5 wr => ∃ (k : Nat) (A2 : Option Addr) (c2 : Nat), k <= p.ships.length /\ i = .int .i64 k /\ x4 = .slice A2 (base1 p k).1.length c2 /\ x5 = .bool (base1 p k).2 /\ Sl wr 2 A2 (base1 p k).1.length (stC (base1 p k).1) /\ Fr w.heap.size A2 /\ PortAt wr w.heap.size p A c /\ Below w.heap.size w wr) (fun i _ _ _ => p.ships.length - (intOf i).toNat)
    case atStart => exact ⟨0, A1, c1, Nat.zero_le _, rfl, rfl, rfl, hS, hR, hP, hB⟩
    case round =>
      clear hS hR hP hB hp1 hg0 H0
      obtain ⟨k, A2, c2, hk, rfl, rfl, rfl, hS, hR, hP, hB⟩ := hrel
      have q0 := hP.now
      have q1 := hP.ships
      have hglt := hP.lt
      by_cases hlt : k < p.ships.length
      · obtain ⟨b, off, hA, hbl, hcells⟩ := ships_at (Sl.below hin hB) (by omega)
        subst hA
        obtain ⟨d1, d2, d3, d4, d5, d6⟩ := hcells k hlt
        have hmk := good_max (base1_good p k)
        have HL := hd_ (@base1_lies p k hlt)
        have HS := hd_ (@base1_still p k hlt)
        have hok := (HSHIP.out k hlt).1
        have hlies := hok.lies
        have hw := hok.wide
        have hlg := hok.long
        clear hok hcells
        change wr.cell? _ = some (.int .i64 (p.ship k).state) at d1
        change wr.cell? _ = some (.int .i64 (p.ship k).wide) at d2
        change wr.cell? _ = some (.int .i64 (p.ship k).long) at d3
        change wr.cell? _ = some (.int .i64 (p.ship k).cls) at d4
        change wr.cell? _ = some (.int .i64 (p.ship k).since) at d5
        change wr.cell? _ = some (.int .i64 (p.ship k).queued) at d6
        generalize base1 p k = B at *
        obtain ⟨bl, bo⟩ := B
        dsimp only at HL HS hS hmk
        generalize p.ship k = x at *
        obtain ⟨st, wd, lg, cl, si, qu⟩ := x
        dsimp only at *
        by_cases e3 : st = 3
        · subst e3
          obtain ⟨l0, l1, l2, l3⟩ := hlies rfl
          cases bo with
          | true =>
            have HE := hd_ (HL.out rfl rfl)
            clear HL HS hlies
            go_wp2_with fail
            refine (take_fr bl A2 c2 (max 0 p.now) (si + lg) wd _ (hS.alloc _) hmk).mono ?_
            rintro e w2 ⟨A3, c3, rfl, h3, hb3, hfr⟩
            go_wp2_with fail
            go_roundw
            case rel => exact ⟨k + 1, A3, c3, by omega, by go_num, by rw [HE.out], by rw [HE.out], by rw [HE.out]; exact h3, fr_or hfr hR (by have := hB.size; simp; omega), (hP.alloc _).below hb3 (by simp; omega), bG_ (hB.alloc hB.size _) hb3⟩
            case measure => simp [intOf] <;> omega
          | false =>
            have HE := hd_ (HS.out (.inr rfl))
            clear HL HS hlies
            go_wp2_with fail
            go_roundw
            case rel => exact ⟨k + 1, A2, c2, by omega, by go_num, by rw [HE.out], by rw [HE.out], by rw [HE.out]; exact hS.alloc _, hR, hP.alloc _, hB.alloc hB.size _⟩
            case measure => simp [intOf] <;> omega
        · have HE := hd_ (HS.out (.inl e3))
          have e4 : (st == 3) = false := by simpa using e3
          clear HL HS hlies
          go_wp2_with fail
          go_roundw
          case rel => exact ⟨k + 1, A2, c2, by omega, by go_num, by rw [HE.out], by rw [HE.out], by rw [HE.out]; exact hS.alloc _, hR, hP.alloc _, hB.alloc hB.size _⟩
          case measure => simp [intOf] <;> omega
      · obtain rfl : k = p.ships.length := by omega
        have H2 := hd_ (base1_all p)
        have hk0 := hP.cell 2
        have hk1 := hP.cell 3
        have hk2 := hP.cell 4
        have hk3 := hP.cell 5
        have hk4 := hP.cell 6
        have hk5 := hP.cell 7
        have hk6 := hP.cell 8
        have hk7 := hP.cell 9
        have hk8 := hP.cell 10
        have hk9 := hP.cell 11
        have hk10 := hP.cell 12
        have hk11 := hP.cell 13
        simp only [portA] at hk0 hk1 hk2 hk3 hk4 hk5 hk6 hk7 hk8 hk9 hk10 hk11
        go_wp2_with fail
        rw [<- H2.out] at hS
        go_loopw [49, 4, 5] (fun i x4 x5 wi => ∃ (m : Nat) (A3 : Option Addr) (c3 : Nat), m <= 4 /\ i = .int .i64 m /\ x4 = .slice A3 (base2 p m).1.length c3 /\ x5 = .bool (base2 p m).2 /\ Sl wi 2 A3 (base2 p m).1.length (stC (base2 p m).1) /\ Fr w.heap.size A3 /\ PortAt wi w.heap.size p A c /\ Below w.heap.size w wi) (fun i _ _ _ => 4 - (intOf i).toNat)
        case atStart => exact ⟨0, A2, c2, by omega, rfl, by rw [H2.out], by rw [H2.out], hS, hR, hP, hB⟩
        case round =>
          clear hk0 hk1 hk2 hk3 hk4 hk5 hk6 hk7 hk8 hk9 hk10 hk11 hS hR hP hB q0 q1 hglt H2
          obtain ⟨m, A3, c3, hm, rfl, rfl, rfl, hS, hR, hP, hB⟩ := hrel
          have q0 := hP.now
          have hglt := hP.lt
          by_cases hlt : m < 4
          · have hmk := good_max (base2_good p m)
            have h4 := HF.out
            have HL := hd_ (@base2_lies p m (by rw [HF.out]; exact hlt))
            have HS := hd_ (@base2_still p m (by rw [HF.out]; exact hlt))
            have HI := hd_ (fun (v : Value) (e : v = .agg #[.int .i64 (p.keep m).wide, .int .i64 (p.keep m).fr, .int .i64 (p.keep m).to]) => e)
            clear h4
            generalize base2 p m = B at *
            obtain ⟨bl, bo⟩ := B
            dsimp only at HL HS hS hmk
            obtain ⟨wd, hwd⟩ : ∃ x, (p.keep m).wide = x := ⟨_, rfl⟩
            obtain ⟨fr, hfr⟩ : ∃ x, (p.keep m).fr = x := ⟨_, rfl⟩
            obtain ⟨tt, htt⟩ : ∃ x, (p.keep m).to = x := ⟨_, rfl⟩
            have HK := hd_ (show (Value.agg #[.int .i64 (p.keep m).wide, .int .i64 (p.keep m).fr, .int .i64 (p.keep m).to]) = .agg #[.int .i64 wd, .int .i64 fr, .int .i64 tt] by rw [hwd, hfr, htt])
            rw [hwd, hfr, htt] at HL HS
            clear hwd hfr htt HI
            cases bo with
            | false =>
              have HE := hd_ (HS.out (.inr rfl))
              clear HL HS
              go_wp2_with (refine wIK (p := p) (k := m) rfl rfl rfl rfl hlt ?_; rw [HK.out])
              go_roundw
              case rel => exact ⟨m + 1, A3, c3, by omega, by go_num, by rw [HE.out], by rw [HE.out], by rw [HE.out]; exact hS.alloc _, hR, hP.alloc _, hB.alloc hB.size _⟩
              case measure => simp [intOf] <;> omega
            | true =>
              have hcase : ∃ F, max (max fr p.now) 0 = F /\ ((p.now < fr /\ F = fr) \/ (fr < p.now /\ F = p.now) \/ (fr = p.now /\ F = p.now)) := by
                rcases (by omega : p.now < fr \/ fr < p.now \/ fr = p.now) with hc | hc | hc
                · exact ⟨fr, by omega, .inl ⟨hc, rfl⟩⟩
                · exact ⟨p.now, by omega, .inr (.inl ⟨hc, rfl⟩)⟩
                · exact ⟨p.now, by omega, .inr (.inr ⟨hc, rfl⟩)⟩
              obtain ⟨F, hF, hc⟩ := hcase
              rw [hF] at HL HS
              clear hF
              by_cases e1 : 0 < wd
              · rcases hc with ⟨hc, rfl⟩ | ⟨hc, rfl⟩ | ⟨hc, rfl⟩
                · by_cases e2 : F < tt
                  · have HE := hd_ (HL.out ⟨e1, e2⟩ rfl)
                    clear HL HS
                    go_wp2_with (refine wIK (p := p) (k := m) rfl rfl rfl rfl hlt ?_; rw [HK.out])
                    refine (take_fr bl A3 c3 F tt wd _ (hS.alloc _) hmk).mono ?_
                    rintro e w2 ⟨A4, c4, rfl, h4, hb4, hfr⟩
                    go_wp2_with fail
                    go_roundw
                    case rel => exact ⟨m + 1, A4, c4, by omega, by go_num, by rw [HE.out], by rw [HE.out], by rw [HE.out]; exact h4, fr_or hfr hR (by have := hB.size; simp; omega), (hP.alloc _).below hb4 (by simp; omega), bG_ (hB.alloc hB.size _) hb4⟩
                    case measure => simp [intOf] <;> omega
                  · have HE := hd_ (HS.out (.inl fun h => e2 h.2))
                    have e2' : decide (F < tt) = false := by simpa using e2
                    clear HL HS e2
                    go_wp2_with (refine wIK (p := p) (k := m) rfl rfl rfl rfl hlt ?_; rw [HK.out])
                    all_goals
                      go_roundw
                      case rel => exact ⟨m + 1, A3, c3, by omega, by go_num, by rw [HE.out], by rw [HE.out], by rw [HE.out]; exact hS.alloc _, hR, hP.alloc _, hB.alloc hB.size _⟩
                      case measure => simp [intOf] <;> omega
                · by_cases e2 : p.now < tt
                  · have HE := hd_ (HL.out ⟨e1, e2⟩ rfl)
                    clear HL HS
                    go_wp2_with (refine wIK (p := p) (k := m) rfl rfl rfl rfl hlt ?_; rw [HK.out])
                    refine (take_fr bl A3 c3 p.now tt wd _ (hS.alloc _) hmk).mono ?_
                    rintro e w2 ⟨A4, c4, rfl, h4, hb4, hfr⟩
                    go_wp2_with fail
                    go_roundw
                    case rel => exact ⟨m + 1, A4, c4, by omega, by go_num, by rw [HE.out], by rw [HE.out], by rw [HE.out]; exact h4, fr_or hfr hR (by have := hB.size; simp; omega), (hP.alloc _).below hb4 (by simp; omega), bG_ (hB.alloc hB.size _) hb4⟩
                    case measure => simp [intOf] <;> omega
                  · have HE := hd_ (HS.out (.inl fun h => e2 h.2))
                    have e2' : decide (p.now < tt) = false := by simpa using e2
                    clear HL HS e2
                    go_wp2_with (refine wIK (p := p) (k := m) rfl rfl rfl rfl hlt ?_; rw [HK.out])
                    all_goals
                      go_roundw
                      case rel => exact ⟨m + 1, A3, c3, by omega, by go_num, by rw [HE.out], by rw [HE.out], by rw [HE.out]; exact hS.alloc _, hR, hP.alloc _, hB.alloc hB.size _⟩
                      case measure => simp [intOf] <;> omega
                · subst hc
                  by_cases e2 : p.now < tt
                  · have HE := hd_ (HL.out ⟨e1, e2⟩ rfl)
                    clear HL HS
                    go_wp2_with (refine wIK (p := p) (k := m) rfl rfl rfl rfl hlt ?_; rw [HK.out])
                    refine (take_fr bl A3 c3 p.now tt wd _ (hS.alloc _) hmk).mono ?_
                    rintro e w2 ⟨A4, c4, rfl, h4, hb4, hfr⟩
                    go_wp2_with fail
                    go_roundw
                    case rel => exact ⟨m + 1, A4, c4, by omega, by go_num, by rw [HE.out], by rw [HE.out], by rw [HE.out]; exact h4, fr_or hfr hR (by have := hB.size; simp; omega), (hP.alloc _).below hb4 (by simp; omega), bG_ (hB.alloc hB.size _) hb4⟩
                    case measure => simp [intOf] <;> omega
                  · have HE := hd_ (HS.out (.inl fun h => e2 h.2))
                    have e2' : decide (p.now < tt) = false := by simpa using e2
                    clear HL HS e2
                    go_wp2_with (refine wIK (p := p) (k := m) rfl rfl rfl rfl hlt ?_; rw [HK.out])
                    all_goals
                      go_roundw
                      case rel => exact ⟨m + 1, A3, c3, by omega, by go_num, by rw [HE.out], by rw [HE.out], by rw [HE.out]; exact hS.alloc _, hR, hP.alloc _, hB.alloc hB.size _⟩
                      case measure => simp [intOf] <;> omega
              · have HE := hd_ (HS.out (.inl fun h => e1 h.1))
                have e1' : decide (0 < wd) = false := by simpa using e1
                clear HL HS
                rcases hc with ⟨hc, rfl⟩ | ⟨hc, rfl⟩ | ⟨hc, rfl⟩
                all_goals
                  go_wp2_with (refine wIK (p := p) (k := m) rfl rfl rfl rfl hlt ?_; rw [HK.out])
                  all_goals
                    go_roundw
                    case rel => exact ⟨m + 1, A3, c3, by omega, by go_num, by rw [HE.out], by rw [HE.out], by rw [HE.out]; exact hS.alloc _, hR, hP.alloc _, hB.alloc hB.size _⟩
                    case measure => simp [intOf] <;> omega
          · obtain rfl : m = 4 := by omega
            have HB := hd_ (base2_all p HF.out)
            go_wp2_with fail
            go_ret2
            exact ⟨A3, c3, (by rw [<- HB.out]; rfl), (by rw [<- HB.out]; exact hS), hB, hR⟩
theorem base_any (p : Port) (A : Option Addr) (c : Nat) (w : World) (hf : Plain.Fair p) (hin : InP w p A) :
    Calls Tryz.prog 56 #[.agg (portA p A c)] w (RetPair (baseL p) w) := (base_fr p A c w hf hin).mono fun _ _ h => h.pair
end Go.Proofs.YtifmdkcpbajdcabGreatDoor
