/- Walks: whether a port is one. -/
import Derived.Test.YtifmdkcpbajdcabGreatDoorBaseW
import Derived.Test.YtifmdkcpbajdcabGreatDoorPortA
import Derived.Test.YtifmdkcpbajdcabGreatDoorPlain
set_option linter.unusedVariables false
set_option linter.unusedSimpArgs false
set_option maxHeartbeats 40000000
namespace Go.Proofs.YtifmdkcpbajdcabGreatDoor
open Go.RowKit Go.Proofs Plain
open Go.Lib renaming hid -> hd_
set_option maxRecDepth 100000 in
theorem good_head (p : Port) (A : Option Addr) (c : Nat) (w : World) (hp : PWf p) (hin : InP w p A) (hh : headB p = false) :
    Calls Tryz.prog 53 #[.agg (portA p A c)] w fun e w' => e = .returned (.bool (goodP p)) /\ Below w.heap.size w w' := by
  have HF := hd_ (goodP_head hh)
  have hml := hp.len
  unfold maxLen at hml
  have HB0 := hd_ (small_box (v := portA p A c) (T := 36) (Nat.le_refl w.heap.size))
  have h3 : ¬ (inB p.now 0 299 = true /\ inB p.shut 0 16 = true /\ p.ships.length <= 14 /\ inB p.next 0 1048576 = true) := by
    intro h; simp [headB, h] at hh
  clear hh
  simp only [portA] at *
  by_cases a1 : inB p.now 0 299 = true
  · have H1 := hd_ a1
    by_cases a2 : inB p.shut 0 16 = true
    · have H2 := hd_ a2
      by_cases a3 : 14 < p.ships.length
      · clear h3 a1 a2
        go_enter Tryz.func53, Tryz.ntmps53
        go_wp2_with (first
          | (go_at_call 82; (with_reducible refine (psI _ H1.out).mono ?_); rintro e w' ⟨rfl, rfl⟩)
          | (go_at_call 82; (with_reducible refine (psI _ H2.out).mono ?_); rintro e w' ⟨rfl, rfl⟩))
        go_ret
        exact ⟨rtB HF.out.symm, HB0.out⟩
      · have a4 : inB p.next 0 1048576 = false := by
          rw [<- Bool.not_eq_true]; intro h; exact h3 ⟨a1, a2, by omega, h⟩
        have H4 := hd_ a4
        clear h3 a1 a2 a4
        go_enter Tryz.func53, Tryz.ntmps53
        go_wp2_with (first
          | (go_at_call 82; (with_reducible refine (psI _ H1.out).mono ?_); rintro e w' ⟨rfl, rfl⟩)
          | (go_at_call 82; (with_reducible refine (psI _ H2.out).mono ?_); rintro e w' ⟨rfl, rfl⟩)
          | (go_at_call 82; (with_reducible refine (psI _ H4.out).mono ?_); rintro e w' ⟨rfl, rfl⟩))
        go_ret
        exact ⟨rtB HF.out.symm, HB0.out⟩
    · have a2 : inB p.shut 0 16 = false := by simpa using a2
      have H2 := hd_ a2
      clear h3 a1 a2
      go_enter Tryz.func53, Tryz.ntmps53
      go_wp2_with (first
        | (go_at_call 82; (with_reducible refine (psI _ H1.out).mono ?_); rintro e w' ⟨rfl, rfl⟩)
        | (go_at_call 82; (with_reducible refine (psI _ H2.out).mono ?_); rintro e w' ⟨rfl, rfl⟩))
      go_ret
      exact ⟨rtB HF.out.symm, HB0.out⟩
  · have a1 : inB p.now 0 299 = false := by simpa using a1
    have H1 := hd_ a1
    clear h3 a1
    go_enter Tryz.func53, Tryz.ntmps53
    go_wp2_with (go_at_call 82; (with_reducible refine (psI _ H1.out).mono ?_); rintro e w' ⟨rfl, rfl⟩)
    go_ret
    exact ⟨rtB HF.out.symm, HB0.out⟩
set_option maxRecDepth 100000 in
theorem good_body (p : Port) (A : Option Addr) (c : Nat) (w : World) (hp : PWf p) (hin : InP w p A) (hh : headB p = true) :
    Calls Tryz.prog 53 #[.agg (portA p A c)] w fun e w' => e = .returned (.bool (goodP p)) /\ Below w.heap.size w w' := by
  have hhd := (head_iff p).1 hh
  obtain ⟨⟨n0, n1⟩, _, hl14, ⟨x0, x1⟩⟩ := hhd
  have H1 := hd_ (show inB p.now 0 299 = true by rw [inB_iff]; omega)
  have H2 := hd_ (show inB p.shut 0 16 = true by rw [inB_iff]; assumption)
  have H4 := hd_ (show inB p.next 0 1048576 = true by rw [inB_iff]; omega)
  have HEND := hd_ (@goodP_end p hh)
  have HWF := hd_ hp
  have hmm := run_makeMap (P := Tryz.prog) 117
  have hl14' : decide (14 < (p.ships.length : Int)) = false := by simp; omega
  have HFAIR := hd_ (show shipsTo p p.ships.length = true -> keptTo p 4 = true -> Plain.Fair p from fun h1 h2 => (fair_iff hp.four).1 (by simp [fairB, hh, h1, h2]))
  clear hh
  simp only [portA] at *
  go_enter Tryz.func53, Tryz.ntmps53
  go_wp2_with (first
    | (go_at_call 82; (with_reducible refine (psI _ H1.out).mono ?_); rintro e w' ⟨rfl, rfl⟩)
    | (go_at_call 82; (with_reducible refine (psI _ H2.out).mono ?_); rintro e w' ⟨rfl, rfl⟩)
    | (go_at_call 82; (with_reducible refine (psI _ H4.out).mono ?_); rintro e w' ⟨rfl, rfl⟩))
  have hP0 : PortAt ((w.alloc (.cells (portA p A c) 36)).alloc (.map #[] 0)) w.heap.size p A c := (PortAt.new w p A c).alloc _
  have hS0 : Seen ((w.alloc (.cells (portA p A c) 36)).alloc (.map #[] 0)) (w.heap.size + 1) 0 [] := by
    have := Seen.made (w.alloc (.cells (portA p A c) 36)); simpa using this
  have hB0 : Below w.heap.size w ((w.alloc (.cells (portA p A c) 36)).alloc (.map #[] 0)) := ((Below.refl _ _).alloc (Nat.le_refl _) _).alloc (by simp) _
  go_loopw [36] (fun i wr => ∃ k : Nat, k <= p.ships.length /\ i = .int .i64 k /\ shipsTo p k = true /\ Seen wr (w.heap.size + 1) k (seenTo p k) /\ PortAt wr w.heap.size p A c /\ Below w.heap.size w wr) (fun i _ => p.ships.length - (intOf i).toNat)
  case atStart => exact ⟨0, Nat.zero_le _, rfl, rfl, hS0, hP0, hB0⟩
  case round =>
    clear hS0 hP0 hB0 hmm
    obtain ⟨k, hk, rfl, hok, hS, hP, hB⟩ := hrel
    have q0 := hP.now
    have q1 := hP.ships
    have q15 := hP.next
    have hglt := hP.lt
    have hSlt := hS.lt
    have HOK := hd_ hok
    clear hok
    by_cases hlt : k < p.ships.length
    · obtain ⟨b, off, hA, hbl, hcells⟩ := ships_at (Sl.below hin hB) (by omega)
      subst hA
      obtain ⟨d1, d2, d3, d4, d5, d6⟩ := hcells k hlt
      have HNO := hd_ (@goodP_ship p k hlt)
      have HB1 := hd_ (@ships_bad1 p k)
      have HB2 := hd_ (@ships_bad2 p k)
      have HB3 := hd_ (@ships_bad3 p k)
      have HNX := hd_ (@ships_next p k HOK.out)
      have hsw := HWF.out.ship k hlt
      have hqw := hsw.queued
      have hnw := HWF.out.now
      have HSN := hd_ (show seenTo p (k + 1) = (p.ship k).queued :: seenTo p k from rfl)
      clear hcells
      change wr.cell? _ = some (.int .i64 (p.ship k).state) at d1
      change wr.cell? _ = some (.int .i64 (p.ship k).wide) at d2
      change wr.cell? _ = some (.int .i64 (p.ship k).long) at d3
      change wr.cell? _ = some (.int .i64 (p.ship k).cls) at d4
      change wr.cell? _ = some (.int .i64 (p.ship k).since) at d5
      change wr.cell? _ = some (.int .i64 (p.ship k).queued) at d6
      obtain ⟨s, hs⟩ : ∃ s, p.ship k = s := ⟨_, rfl⟩
      rw [hs] at d1 d2 d3 d4 d5 d6 HB1 HB2 HB3 HNX hsw hqw HSN
      clear hs
      obtain ⟨st, wd, lg, cl, si, qu⟩ := s
      dsimp only at d1 d2 d3 d4 d5 d6 HB2 HB3 HNX hqw HSN
      have hbox : ∀ j, j < 6 -> ((wr.alloc (.cells (shipV ⟨st, wd, lg, cl, si, qu⟩) 61)).cell? ⟨wr.heap.size, j, none⟩) = (shipV ⟨st, wd, lg, cl, si, qu⟩)[j]? := fun j hj => by
        rw [cell_of_row _ wr.heap.size j _ _ _ (heap_alloc_new wr _)]
      have HBX := hd_ hbox
      clear hbox
      by_cases e1 : shipB ⟨st, wd, lg, cl, si, qu⟩ p.now = true
      · have E1 := hd_ e1
        by_cases e2 : qu < p.next
        · by_cases e3 : qu ∈ seenTo p k
          · have HF := hd_ (HNO.out (HB3.out e3))
            have HM := hd_ (show decide (qu ∈ seenTo p k) = true by simpa using e3)
            clear e1 e3 HNO HB1 HB2 HB3 HNX
            go_wp2_with fail
            refine (goodShip_any ⟨st, wd, lg, cl, si, qu⟩ p.now _ hsw hnw).mono ?_
            rintro e w2 ⟨rfl, hb2⟩
            rw [E1.out]
            have hS2 := (hS.alloc _).below hb2
            have hP2 := (hP.alloc (.cells (shipV ⟨st, wd, lg, cl, si, qu⟩) 61)).below hb2 (by simp; omega)
            have q15' := hP2.next
            have hq5 : w2.cell? ⟨wr.heap.size, 5, none⟩ = some (.int .i64 qu) := (hb2.cell (p := ⟨wr.heap.size, 5, none⟩) (by simp)).trans (HBX.out 5 (by omega))
            have hB2 := bG_ (hB.alloc hB.size _) hb2
            have hrun := hS2.look hqw
            rw [HM.out] at hrun
            go_wp2_with fail
            go_ret
            exact ⟨rtB HF.out.symm, hB2⟩
          · have HM := hd_ (show decide (qu ∈ seenTo p k) = false by simpa using e3)
            have HX := hd_ (HNX.out e1 e2 e3)
            clear e1 e3 HNO HB1 HB2 HB3 HNX
            go_wp2_with fail
            refine (goodShip_any ⟨st, wd, lg, cl, si, qu⟩ p.now _ hsw hnw).mono ?_
            rintro e w2 ⟨rfl, hb2⟩
            rw [E1.out]
            have hS2 := (hS.alloc _).below hb2
            have hP2 := (hP.alloc (.cells (shipV ⟨st, wd, lg, cl, si, qu⟩) 61)).below hb2 (by simp; omega)
            have q15' := hP2.next
            have hq5 : w2.cell? ⟨wr.heap.size, 5, none⟩ = some (.int .i64 qu) := (hb2.cell (p := ⟨wr.heap.size, 5, none⟩) (by simp)).trans (HBX.out 5 (by omega))
            have hB2 := bG_ (hB.alloc hB.size _) hb2
            have hrun := hS2.look hqw
            rw [HM.out] at hrun
            go_wp2_with (at_mapUpdate; refine wpList_put_seen rfl rfl rfl rfl rfl hS2 (by omega) hqw ?_; intro w3 hS3 hg3)
            rw [<- HSN.out] at hS3
            go_roundw
            case rel => exact ⟨k + 1, by omega, by go_num, HX.out, hS3, (hg3.block w.heap.size (by have := hB2.size; have := hP2.lt; omega) (by simp)).trans hP2, below_seen hB2 hg3 hB2.size (by omega)⟩
            case measure => simp [intOf] <;> omega
        · have HF := hd_ (HNO.out (HB2.out e2))
          have e2' : decide (p.next <= qu) = true := by simp; omega
          clear e1 HNO HB1 HB2 HB3 HNX
          go_wp2_with fail
          refine (goodShip_any ⟨st, wd, lg, cl, si, qu⟩ p.now _ hsw hnw).mono ?_
          rintro e w2 ⟨rfl, hb2⟩
          rw [E1.out]
          have hP2 := (hP.alloc (.cells (shipV ⟨st, wd, lg, cl, si, qu⟩) 61)).below hb2 (by simp; omega)
          have q15' := hP2.next
          have hq5 : w2.cell? ⟨wr.heap.size, 5, none⟩ = some (.int .i64 qu) := (hb2.cell (p := ⟨wr.heap.size, 5, none⟩) (by simp)).trans (HBX.out 5 (by omega))
          have hB2 := bG_ (hB.alloc hB.size _) hb2
          go_wp2_with fail
          go_ret
          exact ⟨rtB HF.out.symm, hB2⟩
      · have e1 : shipB ⟨st, wd, lg, cl, si, qu⟩ p.now = false := by simpa using e1
        have E1 := hd_ e1
        have HF := hd_ (HNO.out (HB1.out e1))
        clear e1 HNO HB1 HB2 HB3 HNX
        go_wp2_with fail
        refine (goodShip_any ⟨st, wd, lg, cl, si, qu⟩ p.now _ hsw hnw).mono ?_
        rintro e w2 ⟨rfl, hb2⟩
        rw [E1.out]
        have hB2 := bG_ (hB.alloc hB.size _) hb2
        go_wp2_with fail
        go_ret
        exact ⟨rtB HF.out.symm, hB2⟩
    · obtain rfl : k = p.ships.length := by omega
      have hk0 := hP.cell 2
      have hk1 := hP.cell 3
      have hk2 := hP.cell 4
      have hk3 := hP.cell 5
      have hk4 := hP.cell 6
      have hk5 := hP.cell 7
      have hk6 := hP.cell 8
      have hk7 := hP.cell 9
      have hk8 := hP.cell 10
      have hk9 := hP.cell 11
      have hk10 := hP.cell 12
      have hk11 := hP.cell 13
      simp only [portA] at hk0 hk1 hk2 hk3 hk4 hk5 hk6 hk7 hk8 hk9 hk10 hk11
      go_wp2_with fail
      go_loopw [64] (fun i wi => ∃ m : Nat, m <= 4 /\ i = .int .i64 m /\ keptTo p m = true /\ PortAt wi w.heap.size p A c /\ Below w.heap.size w wi) (fun i _ => 4 - (intOf i).toNat)
      case atStart => exact ⟨0, by omega, rfl, rfl, hP, hB⟩
      case round =>
        clear hk0 hk1 hk2 hk3 hk4 hk5 hk6 hk7 hk8 hk9 hk10 hk11 hS hP hB q0 q1 q15 hglt hSlt
        obtain ⟨m, hm, rfl, hkt, hP, hB⟩ := hrel
        have q0 := hP.now
        have hglt := hP.lt
        have HKT := hd_ hkt
        clear hkt
        by_cases hlt : m < 4
        · have HNO := hd_ (@goodP_kept p m hlt)
          have HYES := hd_ (show keptB (p.keep m) = true -> keptTo p (m + 1) = true from fun h => by rw [keptTo, HKT.out, h]; rfl)
          obtain ⟨x, hx⟩ : ∃ x, p.keep m = x := ⟨_, rfl⟩
          have HK := hd_ (show (Value.agg #[.int .i64 (p.keep m).wide, .int .i64 (p.keep m).fr, .int .i64 (p.keep m).to]) = .agg #[.int .i64 x.wide, .int .i64 x.fr, .int .i64 x.to] by rw [hx])
          rw [hx] at HNO HYES
          clear hx
          obtain ⟨wd, fr, tt⟩ := x
          dsimp only at HK
          have HC := hd_ (show keptB ⟨wd, fr, tt⟩ = ((decide (wd = 0) && decide (fr = 0) && decide (tt = 0)) || (inB wd 1 16 && decide (0 <= fr) && decide (fr < tt) && decide (tt <= 300))) from rfl)
          by_cases z1 : wd = 0
          · have hin0 : inB wd 1 16 = false := by rw [inB_no]; omega
            by_cases z2 : fr = 0
            · by_cases z3 : tt = 0
              · have HX := hd_ (HYES.out (by rw [HC.out]; simp [z1, z2, z3]))
                have KR := hd_ (show (!(decide (wd = 0) && decide (fr = 0) && decide (tt = 0))) = false by simp [z1, z2, z3])
                clear HNO HYES HC hin0 z1 z2 z3
                go_wp2_with (first
                  | (refine wIK (p := p) (k := m) rfl rfl rfl rfl hlt ?_; rw [HK.out])
                  | (with_reducible refine wpList_kept_neq (k1 := wd) (k2 := fr) (k3 := tt) (m1 := 0) (m2 := 0) (m3 := 0) rfl rfl rfl rfl KR.out ?_; refine Hid.out ?_))
                refine hd_ ?_
                go_wp2_with fail
                go_roundw
                case rel => exact ⟨m + 1, by omega, by go_num, HX.out, hP.alloc _, hB.alloc hB.size _⟩
                case measure => simp [intOf] <;> omega
              · have HF := hd_ (HNO.out (by rw [HC.out, hin0]; simp [z3]))
                have G1 := hd_ hin0
                have KR := hd_ (show (!(decide (wd = 0) && decide (fr = 0) && decide (tt = 0))) = true by simp [z3])
                clear HNO HYES HC hin0 z1 z2 z3
                go_wp2_with (first
                  | (refine wIK (p := p) (k := m) rfl rfl rfl rfl hlt ?_; rw [HK.out])
                  | (with_reducible refine wpList_kept_neq (k1 := wd) (k2 := fr) (k3 := tt) (m1 := 0) (m2 := 0) (m3 := 0) rfl rfl rfl rfl KR.out ?_; refine Hid.out ?_))
                refine hd_ ?_
                go_wp2_with (go_at_call 82; (with_reducible refine (psI _ G1.out).mono ?_); rintro e w' ⟨rfl, rfl⟩)
                go_ret
                exact ⟨rtB HF.out.symm, hB.alloc hB.size _⟩
            · have HF := hd_ (HNO.out (by rw [HC.out, hin0]; simp [z2]))
              have G1 := hd_ hin0
              have KR := hd_ (show (!(decide (wd = 0) && decide (fr = 0) && decide (tt = 0))) = true by simp [z2])
              clear HNO HYES HC hin0 z1 z2
              go_wp2_with (first
                | (refine wIK (p := p) (k := m) rfl rfl rfl rfl hlt ?_; rw [HK.out])
                | (with_reducible refine wpList_kept_neq (k1 := wd) (k2 := fr) (k3 := tt) (m1 := 0) (m2 := 0) (m3 := 0) rfl rfl rfl rfl KR.out ?_; refine Hid.out ?_))
              refine hd_ ?_
              go_wp2_with (go_at_call 82; (with_reducible refine (psI _ G1.out).mono ?_); rintro e w' ⟨rfl, rfl⟩)
              go_ret
              exact ⟨rtB HF.out.symm, hB.alloc hB.size _⟩
          · have KR := hd_ (show (!(decide (wd = 0) && decide (fr = 0) && decide (tt = 0))) = true by simp [z1])
            have HC2 := hd_ (show keptB ⟨wd, fr, tt⟩ = (inB wd 1 16 && decide (0 <= fr) && decide (fr < tt) && decide (tt <= 300)) by rw [HC.out]; simp [z1])
            clear HC z1
            by_cases g1 : inB wd 1 16 = true
            · have G1 := hd_ g1
              by_cases g2 : 0 <= fr
              · by_cases g3 : fr < tt
                · by_cases g4 : tt <= 300
                  · have HX := hd_ (HYES.out (by rw [HC2.out]; simp [g1, g2, g3, g4]))
                    clear HNO HYES HC2 g1
                    go_wp2_with (first
                      | (refine wIK (p := p) (k := m) rfl rfl rfl rfl hlt ?_; rw [HK.out])
                      | (with_reducible refine wpList_kept_neq (k1 := wd) (k2 := fr) (k3 := tt) (m1 := 0) (m2 := 0) (m3 := 0) rfl rfl rfl rfl KR.out ?_; refine Hid.out ?_))
                    refine hd_ ?_
                    go_wp2_with (go_at_call 82; (with_reducible refine (psI _ G1.out).mono ?_); rintro e w' ⟨rfl, rfl⟩)
                    go_roundw
                    case rel => exact ⟨m + 1, by omega, by go_num, HX.out, hP.alloc _, hB.alloc hB.size _⟩
                    case measure => simp [intOf] <;> omega
                  · have HF := hd_ (HNO.out (by rw [HC2.out]; simp [g4]))
                    have g4' : decide (tt <= 300) = false := by simpa using g4
                    clear HNO HYES HC2 g1 g4
                    go_wp2_with (first
                      | (refine wIK (p := p) (k := m) rfl rfl rfl rfl hlt ?_; rw [HK.out])
                      | (with_reducible refine wpList_kept_neq (k1 := wd) (k2 := fr) (k3 := tt) (m1 := 0) (m2 := 0) (m3 := 0) rfl rfl rfl rfl KR.out ?_; refine Hid.out ?_))
                    refine hd_ ?_
                    go_wp2_with (go_at_call 82; (with_reducible refine (psI _ G1.out).mono ?_); rintro e w' ⟨rfl, rfl⟩)
                    go_ret
                    exact ⟨rtB HF.out.symm, hB.alloc hB.size _⟩
                · have HF := hd_ (HNO.out (by rw [HC2.out]; simp [g3]))
                  have g3' : decide (fr < tt) = false := by simpa using g3
                  clear HNO HYES HC2 g1 g3
                  go_wp2_with (first
                    | (refine wIK (p := p) (k := m) rfl rfl rfl rfl hlt ?_; rw [HK.out])
                    | (with_reducible refine wpList_kept_neq (k1 := wd) (k2 := fr) (k3 := tt) (m1 := 0) (m2 := 0) (m3 := 0) rfl rfl rfl rfl KR.out ?_; refine Hid.out ?_))
                  refine hd_ ?_
                  go_wp2_with (go_at_call 82; (with_reducible refine (psI _ G1.out).mono ?_); rintro e w' ⟨rfl, rfl⟩)
                  go_ret
                  exact ⟨rtB HF.out.symm, hB.alloc hB.size _⟩
              · have HF := hd_ (HNO.out (by rw [HC2.out]; simp [g2]))
                have g2' : decide (0 <= fr) = false := by simpa using g2
                clear HNO HYES HC2 g1 g2
                go_wp2_with (first
                  | (refine wIK (p := p) (k := m) rfl rfl rfl rfl hlt ?_; rw [HK.out])
                  | (with_reducible refine wpList_kept_neq (k1 := wd) (k2 := fr) (k3 := tt) (m1 := 0) (m2 := 0) (m3 := 0) rfl rfl rfl rfl KR.out ?_; refine Hid.out ?_))
                refine hd_ ?_
                go_wp2_with (go_at_call 82; (with_reducible refine (psI _ G1.out).mono ?_); rintro e w' ⟨rfl, rfl⟩)
                go_ret
                exact ⟨rtB HF.out.symm, hB.alloc hB.size _⟩
            · have g1 : inB wd 1 16 = false := by simpa using g1
              have G1 := hd_ g1
              have HF := hd_ (HNO.out (by rw [HC2.out, g1]; rfl))
              clear HNO HYES HC2 g1
              go_wp2_with (first
                | (refine wIK (p := p) (k := m) rfl rfl rfl rfl hlt ?_; rw [HK.out])
                | (with_reducible refine wpList_kept_neq (k1 := wd) (k2 := fr) (k3 := tt) (m1 := 0) (m2 := 0) (m3 := 0) rfl rfl rfl rfl KR.out ?_; refine Hid.out ?_))
              refine hd_ ?_
              go_wp2_with (go_at_call 82; (with_reducible refine (psI _ G1.out).mono ?_); rintro e w' ⟨rfl, rfl⟩)
              go_ret
              exact ⟨rtB HF.out.symm, hB.alloc hB.size _⟩
        · obtain rfl : m = 4 := by omega
          have HE := hd_ (HEND.out HOK.out HKT.out)
          have HFR := hd_ (HFAIR.out HOK.out HKT.out)
          go_wp2_with (refine wLP rfl rfl (by first | rfl | simp [Act.eval, Act.put]) hP ?_)
          refine (base_any p A c _ HFR.out (Sl.below hin hB)).mono ?_
          rintro e w2 ⟨A2, c2, rfl, h2, hb2⟩
          go_wp2_with fail
          go_ret
          exact ⟨rtB HE.out.symm, bG_ hB hb2⟩
theorem good_port (p : Port) (A : Option Addr) (c : Nat) (w : World) (hp : PWf p) (hin : InP w p A) :
    Calls Tryz.prog 53 #[.agg (portA p A c)] w fun e w' => e = .returned (.bool (goodP p)) /\ Below w.heap.size w w' := by
  cases hh : headB p with
  | true => exact good_body p A c w hp hin hh
  | false => exact good_head p A c w hp hin hh
end Go.Proofs.YtifmdkcpbajdcabGreatDoor
