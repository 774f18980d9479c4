/- Walks: those that are in the queue no more. -/
import Derived.Test.YtifmdkcpbajdcabMendW
import Derived.Test.YtifmdkcpbajdcabNats
namespace Go.Proofs.Ytifmdkcpbajdcab
open Go.RowKit Go.Proofs Plain

def lostTo (was now : Port) (k : Nat) : List Nat := (List.range k).filter (lostB was now)
theorem lostTo_yes {was now : Port} {k : Nat} (h : lostB was now k = true) : lostTo was now (k + 1) = lostTo was now k ++ [k] := by
  unfold lostTo; rw [List.range_succ, List.filter_append]; simp [h]
theorem lostTo_no {was now : Port} {k : Nat} (h : lostB was now k = false) : lostTo was now (k + 1) = lostTo was now k := by
  unfold lostTo; rw [List.range_succ, List.filter_append]; simp [h]
theorem lostTo_len (was now : Port) (k : Nat) : (lostTo was now k).length ≤ k := by
  have := List.length_filter_le (lostB was now) (List.range k)
  rwa [List.length_range] at this
theorem natsI_app (l : List Nat) (k : Nat) : natsI (l ++ [k]) = natsI l ++ [(k : Int)] := by simp [natsI]

theorem lost_not {was now : Port} {i : Nat} (h : (was.ship i).state ≠ 1) : lostB was now i = false := by simp [lostB, h]
theorem lost_out {was now : Port} {i : Nat} (h : (was.ship i).state = 1) (h2 : ¬ i < now.ships.length) : lostB was now i = true := by simp [lostB, h, show now.ships.length ≤ i by omega]
theorem lost_other {was now : Port} {i : Nat} (h : (was.ship i).state = 1) (h2 : (now.ship i).state ≠ 1) : lostB was now i = true := by simp [lostB, h, h2]
theorem lost_fresh {was now : Port} {i : Nat} (h : (was.ship i).state = 1) (h1 : i < now.ships.length) (h2 : (now.ship i).state = 1) : lostB was now i = freshB was now i := by
  simp [lostB, h, h2, show ¬ now.ships.length ≤ i by omega]

theorem lost_step {w W w' : World} {was now : Port} {A1 A2 : Option Addr} {c1 c2 : Nat} {l : List Int} {v : Value} (hO : OwnI W (w.heap.size + 2) v l) (hP : PortAt W w.heap.size was A1 c1) (hQ : PortAt W (w.heap.size + 1) now A2 c2)
    (hB : Below w.heap.size w W) (hg : W.grownBy w' v.ownBlock) : PortAt w' w.heap.size was A1 c1 ∧ PortAt w' (w.heap.size + 1) now A2 c2 ∧ Below w.heap.size w w' := by
  have h := grown_below (B := w.heap.size + 2) (Below.refl _ _) hg hO (Nat.le_refl _) hQ.lt
  exact ⟨hP.below h (by omega), hQ.below h (by omega), hB.trans (h.mono (by omega))⟩

set_option maxRecDepth 100000 in
set_option maxHeartbeats 20000000 in
theorem lost_any (was now : Port) (A1 A2 : Option Addr) (c1 c2 : Nat) (q : Value) (w : World) (hin1 : InP w was A1) (hin2 : InP w now A2) (hl : was.ships.length ≤ 100) :
    Calls Try.prog 40 #[.agg (portA was A1 c1), .agg (portA now A2 c2), q] w (RetInts (natsI (lostL was now)) w) := by
  simp only [portA]
  go_enter Try.func40, Try.ntmps40
  go_wp2_with fail
  have hP1 : PortAt (w.alloc (.cells (portA was A1 c1) 27)) w.heap.size was A1 c1 := PortAt.new w was A1 c1
  have hP2 : PortAt ((w.alloc (.cells (portA was A1 c1) 27)).alloc (.cells (portA now A2 c2) 27)) (w.heap.size + 1) now A2 c2 := by
    have := PortAt.new (w.alloc (.cells (portA was A1 c1) 27)) now A2 c2
    simpa using this
  have hP1' := hP1.alloc (.cells (portA now A2 c2) 27)
  have hB0 : Below w.heap.size w ((w.alloc (.cells (portA was A1 c1) 27)).alloc (.cells (portA now A2 c2) 27)) := ((Below.refl _ _).alloc (Nat.le_refl _) _).alloc (by simp) _
  simp only [portA] at hP1 hP2 hP1' hB0
  go_loopw [7, 13] (fun l i wr => ∃ (k : Nat) (L : Option Addr) (cL : Nat), k ≤ was.ships.length ∧ i = .int .i64 k ∧ l = .slice L (natsI (lostTo was now k)).length cL ∧ OwnI wr (w.heap.size + 2) (.slice L (natsI (lostTo was now k)).length cL) (natsI (lostTo was now k)) ∧ PortAt wr w.heap.size was A1 c1 ∧ PortAt wr (w.heap.size + 1) now A2 c2 ∧ Below w.heap.size w wr) (fun _ i _ => was.ships.length - (intOf i).toNat)
  case atStart => exact ⟨0, none, 0, Nat.zero_le _, rfl, rfl, OwnI.nil _ _, hP1', hP2, hB0⟩
  case round =>
    clear hP1 hP1' hP2 hB0
    obtain ⟨k, L, cL, hk, rfl, rfl, hO, hP, hQ, hB⟩ := hrel
    have q0 := hP.ships
    have q1 := hQ.ships
    have hglt := hP.lt
    have hqlt := hQ.lt
    have hll := lostTo_len was now k
    by_cases hlt : k < was.ships.length
    · obtain ⟨b, off, hA, hbl, hcells⟩ := ships_at (Sl.below hin1 hB) (by omega)
      subst hA
      obtain ⟨d1, d2, d3, d4, d5, d6⟩ := hcells k hlt
      clear hcells
      have HNOT := Lib.hid (@lost_not was now k)
      have HOUT := Lib.hid (@lost_out was now k)
      have HOTH := Lib.hid (@lost_other was now k)
      have HFRE := Lib.hid (@lost_fresh was now k)
      have HY := Lib.hid (@lostTo_yes was now k)
      have HN := Lib.hid (@lostTo_no was now k)
      have HSL := Lib.hid (Sl.below hin2 hB)
      have HSW := Lib.hid (Sl.below hin1 hB)
      have HO := Lib.hid hO
      have HP := Lib.hid hP
      have HQ := Lib.hid hQ
      clear hO
      change wr.cell? _ = some (.int .i64 (was.ship k).state) at d1
      change wr.cell? _ = some (.int .i64 (was.ship k).wide) at d2
      change wr.cell? _ = some (.int .i64 (was.ship k).long) at d3
      change wr.cell? _ = some (.int .i64 (was.ship k).cls) at d4
      change wr.cell? _ = some (.int .i64 (was.ship k).since) at d5
      change wr.cell? _ = some (.int .i64 (was.ship k).queued) at d6
      by_cases h1 : (was.ship k).state = 1
      · have hg : ∀ w5 : World, Below wr.heap.size wr w5 → OwnI w5 (w.heap.size + 2) (.slice L (natsI (lostTo was now k)).length cL) (natsI (lostTo was now k)) ∧ PortAt w5 w.heap.size was (some ⟨b, off, none⟩) c1 ∧ PortAt w5 (w.heap.size + 1) now A2 c2 ∧ Below w.heap.size w w5 :=
          fun w5 hb => ⟨HO.out.below hb, HP.out.below hb HP.out.lt, HQ.out.below hb HQ.out.lt, below_go hB hb⟩
        by_cases h2 : k < now.ships.length
        · have t1 : decide ((k : Int) ≥ (now.ships.length : Int)) = false := by simpa using h2
          obtain ⟨b2, off2, hA2, hbl2, hcells2⟩ := ships_at HSL.out (by omega)
          subst hA2
          obtain ⟨f1, _⟩ := hcells2 k h2
          clear hcells2
          change wr.cell? _ = some (.int .i64 (now.ship k).state) at f1
          by_cases h3 : (now.ship k).state = 1
          · have HFR := Lib.hid (HFRE.out h1 h2 h3)
            clear HFRE HNOT HOUT HOTH
            generalize was.ship k = x at *
            obtain ⟨xs, xw, xl, xc, xi, xq⟩ := x
            generalize (now.ship k) = y at *
            obtain ⟨ys, yw, yl, yc, yi, yq⟩ := y
            dsimp only at *
            subst h1
            obtain ⟨z1, z2, z3, z4⟩ := hg _ ((Below.refl _ _).alloc (Nat.le_refl _) (.cells (shipV ⟨1, xw, xl, xc, xi, xq⟩) 38))
            clear hg
            subst h3
            have u0 := z2.cell 0
            have u1 := z2.cell 1
            have u2 := z2.cell 2
            have u3 := z2.cell 3
            have u4 := z2.cell 4
            have u5 := z2.cell 5
            have u6 := z2.cell 6
            have u7 := z2.cell 7
            have u8 := z2.cell 8
            have u9 := z2.cell 9
            have u10 := z2.cell 10
            have u11 := z2.cell 11
            have u12 := z2.cell 12
            have u13 := z2.cell 13
            have u14 := z2.cell 14
            have u15 := z2.cell 15
            have v0 := z3.cell 0
            have v1 := z3.cell 1
            have v2 := z3.cell 2
            have v3 := z3.cell 3
            have v4 := z3.cell 4
            have v5 := z3.cell 5
            have v6 := z3.cell 6
            have v7 := z3.cell 7
            have v8 := z3.cell 8
            have v9 := z3.cell 9
            have v10 := z3.cell 10
            have v11 := z3.cell 11
            have v12 := z3.cell 12
            have v13 := z3.cell 13
            have v14 := z3.cell 14
            have v15 := z3.cell 15
            simp only [portA, shipV] at u0 v0 u1 v1 u2 v2 u3 v3 u4 v4 u5 v5 u6 v6 u7 v7 u8 v8 u9 v9 u10 v10 u11 v11 u12 v12 u13 v13 u14 v14 u15 v15
            have HI1 := Lib.hid (HSW.out.alloc (.cells (shipV ⟨1, xw, xl, xc, xi, xq⟩) 38))
            have HI2 := Lib.hid (HSL.out.alloc (.cells (shipV ⟨1, xw, xl, xc, xi, xq⟩) 38))
            simp only [shipV] at HI1 HI2
            have HZ1 := Lib.hid z1
            have HZ2 := Lib.hid z2
            have HZ3 := Lib.hid z3
            have HZ4 := Lib.hid z4
            simp only [shipV] at HZ1 HZ2 HZ3 HZ4
            clear z1 z2 z3 z4
            cases hf : freshB was now k
            · have HF := Lib.hid hf
              have HL := Lib.hid (HN.out (HFR.out.trans hf))
              clear hf HFR HY HN
              go_wp2_with (go_at_call 42; refine (fresh_any was now _ _ c1 c2 k _ HI1.out HI2.out (fun _ => h2) hl (by omega)).mono ?_; rintro e w5 ⟨rfl, hb5⟩; rw [HF.out])
              go_roundw
              case rel => exact ⟨k + 1, L, cL, by omega, by go_num, by rw [HL.out], by rw [HL.out]; exact HZ1.out.below hb5, HZ2.out.below hb5 HZ2.out.lt, HZ3.out.below hb5 HZ3.out.lt, below_go HZ4.out hb5⟩
              case measure => simp [intOf] <;> omega
            · have HF := Lib.hid hf
              have HL := Lib.hid (HY.out (HFR.out.trans hf))
              clear hf HFR HY HN
              go_wp2_with fail
              refine (fresh_any was now _ _ c1 c2 k _ HI1.out HI2.out (fun _ => h2) hl (by omega)).mono ?_
              rintro e w5 ⟨rfl, hb5⟩
              rw [HF.out]
              have z1 := HZ1.out.below hb5
              have z2 := HZ2.out.below hb5 HZ2.out.lt
              have z3 := HZ3.out.below hb5 HZ3.out.lt
              have z4 := below_go HZ4.out hb5
              have hs5 : w.heap.size + 2 ≤ w5.heap.size := z3.lt
              have ho2 := z1.alloc (.cells #[.int .i64 k] 3)
              have HZ := Lib.hid (And.intro (z2.alloc (.cells #[.int .i64 k] 3)) (And.intro (z3.alloc (.cells #[.int .i64 k] 3)) (z4.alloc z4.size (.cells #[.int .i64 k] 3))))
              have hh : (w5.alloc (.cells #[.int .i64 k] 3)).heap[w5.heap.size]? = some (.cells #[.int .i64 k] 3 (0, 0)) := by
                have := heap_alloc_new w5 (.cells #[.int .i64 k] 3)
                simpa using this
              clear z1 z2 z3 z4
              go_wp2_with (at_builtin; refine wpList_append_int rfl _ _ rfl (w.heap.size + 2) _ _ rfl ho2 (w5.heap.size) 1 k rfl hh (by rw [natsI_len]; omega) (by simp; omega) ?_; intro v' w' ho' hg')
              have HW := lost_step ho2 HZ.out.1 HZ.out.2.1 HZ.out.2.2 hg'
              rw [← natsI_app, ← HL.out] at ho'
              obtain ⟨L', c', rfl⟩ := own_form ho'
              have hfin : OwnI w' (w.heap.size + 2) (.slice L' (natsI (lostTo was now (k + 1))).length c') (natsI (lostTo was now (k + 1))) ∧ _ := ⟨ho', HW⟩
              go_roundw
              case rel => exact ⟨k + 1, L', c', by omega, by go_num, rfl, hfin⟩
              case measure => simp [intOf] <;> omega
          · have HL := Lib.hid (HY.out (HOTH.out h1 h3))
            clear HFRE HNOT HOUT HOTH HY HN
            generalize was.ship k = x at *
            obtain ⟨xs, xw, xl, xc, xi, xq⟩ := x
            generalize (now.ship k) = y at *
            obtain ⟨ys, yw, yl, yc, yi, yq⟩ := y
            dsimp only at *
            subst h1
            obtain ⟨z1, z2, z3, z4⟩ := hg _ ((Below.refl _ _).alloc (Nat.le_refl _) (.cells (shipV ⟨1, xw, xl, xc, xi, xq⟩) 38))
            clear hg
            obtain ⟨a1, a2, a3⟩ := ne_facts h3
            have ho2 := z1.alloc (.cells #[.int .i64 k] 3)
            have HZ := Lib.hid (And.intro (z2.alloc (.cells #[.int .i64 k] 3)) (And.intro (z3.alloc (.cells #[.int .i64 k] 3)) (z4.alloc z4.size (.cells #[.int .i64 k] 3))))
            have hh : ((wr.alloc (.cells (shipV ⟨1, xw, xl, xc, xi, xq⟩) 38)).alloc (.cells #[.int .i64 k] 3)).heap[wr.heap.size + 1]? = some (.cells #[.int .i64 k] 3 (0, 0)) := by
              have := heap_alloc_new (wr.alloc (.cells (shipV ⟨1, xw, xl, xc, xi, xq⟩) 38)) (.cells #[.int .i64 k] 3)
              simpa using this
            simp only [shipV] at ho2 hh HZ
            clear z1 z2 z3 z4
            go_wp2_with (at_builtin; refine wpList_append_int rfl _ _ rfl (w.heap.size + 2) _ _ rfl ho2 (wr.heap.size + 1) 1 k rfl hh (by rw [natsI_len]; omega) (by simp; omega) ?_; intro v' w' ho' hg')
            have HW := lost_step ho2 HZ.out.1 HZ.out.2.1 HZ.out.2.2 hg'
            rw [← natsI_app, ← HL.out] at ho'
            obtain ⟨L', c', rfl⟩ := own_form ho'
            have hfin : OwnI w' (w.heap.size + 2) (.slice L' (natsI (lostTo was now (k + 1))).length c') (natsI (lostTo was now (k + 1))) ∧ _ := ⟨ho', HW⟩
            go_roundw
            case rel => exact ⟨k + 1, L', c', by omega, by go_num, rfl, hfin⟩
            case measure => simp [intOf] <;> omega
        · have HL := Lib.hid (HY.out (HOUT.out h1 h2))
          have t1 : decide ((k : Int) ≥ (now.ships.length : Int)) = true := by simpa using h2
          generalize was.ship k = x at *
          obtain ⟨xs, xw, xl, xc, xi, xq⟩ := x
          dsimp only at *
          subst h1
          obtain ⟨z1, z2, z3, z4⟩ := hg _ ((Below.refl _ _).alloc (Nat.le_refl _) (.cells (shipV ⟨1, xw, xl, xc, xi, xq⟩) 38))
          clear hg
          have ho2 := z1.alloc (.cells #[.int .i64 k] 3)
          have HZ := Lib.hid (And.intro (z2.alloc (.cells #[.int .i64 k] 3)) (And.intro (z3.alloc (.cells #[.int .i64 k] 3)) (z4.alloc z4.size (.cells #[.int .i64 k] 3))))
          have hh : ((wr.alloc (.cells (shipV ⟨1, xw, xl, xc, xi, xq⟩) 38)).alloc (.cells #[.int .i64 k] 3)).heap[wr.heap.size + 1]? = some (.cells #[.int .i64 k] 3 (0, 0)) := by
            have := heap_alloc_new (wr.alloc (.cells (shipV ⟨1, xw, xl, xc, xi, xq⟩) 38)) (.cells #[.int .i64 k] 3)
            simpa using this
          simp only [shipV] at ho2 hh HZ
          clear z1 z2 z3 z4
          go_wp2_with (at_builtin; refine wpList_append_int rfl _ _ rfl (w.heap.size + 2) _ _ rfl ho2 (wr.heap.size + 1) 1 k rfl hh (by rw [natsI_len]; omega) (by simp; omega) ?_; intro v' w' ho' hg')
          have HW := lost_step ho2 HZ.out.1 HZ.out.2.1 HZ.out.2.2 hg'
          rw [← natsI_app, ← HL.out] at ho'
          obtain ⟨L', c', rfl⟩ := own_form ho'
          have hfin : OwnI w' (w.heap.size + 2) (.slice L' (natsI (lostTo was now (k + 1))).length c') (natsI (lostTo was now (k + 1))) ∧ _ := ⟨ho', HW⟩
          go_roundw
          case rel => exact ⟨k + 1, L', c', by omega, by go_num, rfl, hfin⟩
          case measure => simp [intOf] <;> omega
      · obtain ⟨a1, a2, a3⟩ := ne_facts h1
        have HL := Lib.hid (HN.out (HNOT.out h1))
        generalize was.ship k = x at *
        obtain ⟨xs, xw, xl, xc, xi, xq⟩ := x
        dsimp only at *
        go_wp2_with fail
        go_roundw
        case rel => exact ⟨k + 1, L, cL, by omega, by go_num, by rw [HL.out], by rw [HL.out]; exact HO.out.alloc _, HP.out.alloc _, HQ.out.alloc _, hB.alloc hB.size _⟩
        case measure => simp [intOf] <;> omega
    · obtain rfl : k = was.ships.length := by omega
      go_wp2_with fail
      go_ret
      exact ⟨L, cL, rfl, Sl.of_own hO, hB, (fr_own hO).mono (by omega)⟩
end Go.Proofs.Ytifmdkcpbajdcab
