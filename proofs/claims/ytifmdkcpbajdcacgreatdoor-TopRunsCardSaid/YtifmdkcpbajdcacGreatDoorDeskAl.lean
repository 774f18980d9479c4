/- Walks: a desk answers at all; what a look may turn. -/
import Derived.Test.YtifmdkcpbajdcacGreatDoorDeskOp
import Derived.Test.YtifmdkcpbajdcacGreatDoorAlivePlain
set_option linter.unusedVariables false
set_option linter.unusedSimpArgs false
namespace Go.Proofs.YtifmdkcpbajdcacGreatDoor
open Go.RowKit Go.Proofs Plain

/-- Nothing but these blocks has turned. -/
structure Kp (M : Nat → Prop) (w w' : World) : Prop where
  os : w'.os = w.os
  tape : w'.tape = w.tape
  output : w'.output = w.output
  size : w.heap.size ≤ w'.heap.size
  block : ∀ k, k < w.heap.size → ¬ M k → w'.heap[k]? = w.heap[k]?
section
variable {w w' w2 : World} {M G : Nat → Prop} {g n : Nat} {d : Desk}
theorem Kp.of_below (h : Below w.heap.size w w') : Kp M w w' := ⟨h.os, h.tape, h.output, h.size, fun k hk _ => h.block k hk⟩
theorem Kp.refl (w : World) : Kp M w w := Kp.of_below (Below.refl _ _)
theorem Kp.trans (h : Kp M w w') (k : Kp M w' w2) : Kp M w w2 :=
  ⟨k.os.trans h.os, k.tape.trans h.tape, k.output.trans h.output, Nat.le_trans h.size k.size, fun i hi hn => (k.block i (Nat.lt_of_lt_of_le hi h.size) hn).trans (h.block i hi hn)⟩
theorem Kp.then_tn (h : Kp M w w') (k : Tn g w' w2) (hg : w.heap.size ≤ g) : Kp M w w2 :=
  ⟨k.os.trans h.os, k.tape.trans h.tape, k.output.trans h.output, Nat.le_trans h.size k.size, fun i hi hn => (k.block i (Nat.lt_of_lt_of_le hi h.size) (fun e => by injection e with e; omega)).trans (h.block i hi hn)⟩
theorem Kp.below (h : Kp M w w') (hM : ∀ b, M b → n ≤ b) (hn : n ≤ w.heap.size) : Below n w w' := ⟨h.os, h.tape, h.output, h.size, fun k hk => h.block k (Nat.lt_of_lt_of_le hk hn) fun hm => by have := hM k hm; omega⟩
theorem Kp.none (h : Kp (fun _ => False) w w') : Below w.heap.size w w' := ⟨h.os, h.tape, h.output, h.size, fun k hk => h.block k hk fun hm => hm⟩
theorem Kp.drew (h : Kp M w w') : Kp M w w'.drew := ⟨h.os, h.tape, h.output, h.size, h.block⟩
theorem Kp.undrew (h : Kp M w.drew w') : Kp M w w' := ⟨h.os, h.tape, h.output, h.size, h.block⟩
theorem DeskAt.kp (h : DeskAt w G g d) (hk : Kp M w w') (hM : ∀ b, M b → G b) (hg : ¬ M g) : DeskAt w' G g d := by
  have hs : ∀ b, b < w.heap.size → ¬ G b → w'.heap[b]? = w.heap[b]? := fun b hb hn => hk.block b hb fun hm => hn (hM b hm)
  obtain ⟨A, c, B, cB, K, v2, v3, v4, v5, v6, v7, v8, v9, v10, v11, v12, v13, v14, v15, h1, hd, h3, h4, h5⟩ := h.at_
  exact ⟨h.own, fun b hb => Nat.lt_of_lt_of_le (h.all b hb) hk.size, A, c, B, cB, K, v2, v3, v4, v5, v6, v7, v8, v9, v10, v11, v12, v13, v14, v15, h1,
    (hk.block g h.lt hg).trans hd, h3.same hs, h4.same hs, h5.same hs⟩
end

theorem field_ships (v0 v2 v3 v4 v5 v6 v7 v8 v9 v10 v11 v12 v13 v14 v15 : Value) (A : Option Addr) (n c : Nat) (w : World) : (Instr.field 43 (.agg #[v0, .slice A n c, v2, v3, v4, v5, v6, v7, v8, v9, v10, v11, v12, v13, v14, v15]) 1).run Tryz.prog w = .ok (.slice A n c) w := by kernel_rfl
attribute [local go_sem] field_ships

theorem play_one (l : List Txt) (k : Nat) (s : Txt) (d : Desk) (h : l[k]? = some s) : playL d (l.take (k + 1)) = (tellD (playL d (l.take k)) s).1 := by
  rw [List.take_add_one, h, Option.toList_some, play_snoc]
theorem play_le (l : List Txt) (d : Desk) : (playL d l).acts ≤ d.acts + l.length := by
  induction l generalizing d with
  | nil => simp [playL]
  | cons s l ih =>
    have h := ih (tellD d s).1
    have h2 : (tellD d s).1.acts ≤ d.acts + 1 := by
      unfold tellD
      split
      · simp
      · cases parseL s <;> simp
    rw [playL, List.length_cons]; omega

set_option maxRecDepth 100000 in
set_option maxHeartbeats 8000000 in
theorem alive_any (Bt : Nat) (w : World) (hL : LineAt Bt w) : Calls Tryz.prog 13 #[] w fun e w' => e = .returned (.bool true) ∧ Below w.heap.size w w' := by
  have HT1 := Lib.hid (fun (g : Nat) (w : World) (hD : DeskAt w (fun b => b = g) g Desk.new) (h : LineAt Bt w) (hg : Bt ≤ g) => tellD_any Bt _ g Desk.new ⟨#[99, 111, 109, 101, 32, 49, 54, 32, 57, 32, 48]⟩ w hD new_ok h hg (by decide) (by decide))
  have hk2 : DOk ⟨alB, none, 1⟩ := by have := (tell_ok alS1 new_ok).1; rwa [al_told1] at this
  have HT2 := Lib.hid (fun (g : Nat) (w : World) (hD : DeskAt w (fun b => b = g) g ⟨alB, none, 1⟩) (h : LineAt Bt w) (hg : Bt ≤ g) => tellD_any Bt _ g ⟨alB, none, 1⟩ ⟨#[99, 111, 109, 101, 32, 49, 32, 57, 32, 48]⟩ w hD hk2 h hg (by decide) (by decide))
  have HPL := Lib.hid (fun (g : Nat) (w : World) (hD : DeskAt w (fun b => b = g) g ⟨alC, none, 2⟩) => planD_any _ g ⟨alC, none, 2⟩ w hD al_goodC)
  have HPO := Lib.hid (fun (g : Nat) (w : World) (hD : DeskAt w (fun b => b = g) g ⟨alC, none, 2⟩) => portD_any _ g ⟨alC, none, 2⟩ w hD al_goodC)
  have e1 : (⟨#[99, 111, 109, 101, 32, 49, 54, 32, 57, 32, 48]⟩ : ByteArray).data.toList = alS1 := rfl
  have e2 : (⟨#[99, 111, 109, 101, 32, 49, 32, 57, 32, 48]⟩ : ByteArray).data.toList = alS2 := rfl
  have hBs := hL.size
  have HE1 := Lib.hid e1
  have HE2 := Lib.hid e2
  clear hk2 e1 e2
  go_enter Tryz.func13, Tryz.ntmps13
  go_wp2_with fail
  refine (newD_any _).mono ?_
  rintro e w1 ⟨g, rfl, hg1, hb1, hg2, hD⟩
  have hD1 : DeskAt w1 (fun b => b = g) g Desk.new := hD _ rfl fun b hb => by subst hb; exact hg2
  have hL1 := hL.below (hb1.mono hBs)
  have hBg := Nat.le_trans hBs hg1
  clear hD hL hg2
  go_wp2_with fail
  have h := HT1.out g w1 hD1 hL1 hBg
  rw [HE1.out, al_told1] at h
  dsimp only at h
  refine h.mono ?_
  rintro e w2 ⟨rfl, hD2, hT2⟩
  have hL2 := hL1.below (hT2.below hBg hL1.size)
  have hT2' : Tn g w w2 := (Tn.of_below hb1).trans hT2
  clear h hD1 hL1 hT2 hb1
  go_wp2_with fail
  have h := HT2.out g w2 hD2 hL2 hBg
  rw [HE2.out, al_told2] at h
  dsimp only at h
  refine h.mono ?_
  rintro e w3 ⟨rfl, hD3, hT3⟩
  have hB3 := (hT2'.trans hT3).below hg1 (Nat.le_refl _)
  clear h hD2 hL2 hT3 hT2'
  have hD4 := hD3.below (((Below.refl _ _).alloc (Nat.le_refl _) (.cells #[.int .i64 0, .int .i64 0] 29)).alloc (by simp) (.cells #[.int .i64 0, .int .i64 1] 29))
  have hB4 := (hB3.alloc hB3.size (.cells #[.int .i64 0, .int .i64 0] 29)).alloc (by simp; have := hB3.size; omega) (.cells #[.int .i64 0, .int .i64 1] 29)
  clear hD3 hB3
  go_wp2_with fail
  obtain ⟨W4, hW4⟩ : ∃ W4, (w3.alloc (.cells #[.int .i64 0, .int .i64 0] 29)).alloc (.cells #[.int .i64 0, .int .i64 1] 29) = W4 := ⟨_, rfl⟩
  rw [hW4] at hD4 hB4
  rw [hW4]
  clear hW4
  have h := HPL.out g W4 hD4
  rw [al_planC] at h
  refine h.mono ?_
  rintro e w5 ⟨A5, c5, rfl, ho5, hb5⟩
  have hD5 := hD4.below hb5
  have hB5 := below_go hB4 hb5
  clear h hD4 hB4 hb5 ho5
  go_wp2_with fail
  have h := HPL.out g w5 hD5
  rw [al_planC] at h
  refine h.mono ?_
  rintro e w6 ⟨A6, c6, rfl, ho6, hb6⟩
  have hD6 := hD5.below hb6
  have hB6 := below_go hB5 hb6
  obtain ⟨b6, off6, rfl, hc6⟩ := (Sl.of_own ho6).2 (by decide)
  have hx6 : w6.cell? ⟨b6, off6 + 1, none⟩ = some (.int .i64 9) := hc6 1 (by decide)
  clear h hD5 hB5 hb6 ho6 hc6
  go_wp2_with fail
  have h := HPO.out g w6 hD6
  refine h.mono ?_
  rintro e w7 ⟨A7, c7, rfl, ho7, hb7⟩
  have hB7 := below_go hB6 hb7
  obtain ⟨b7, off7, rfl, _, hc7⟩ := ships_at (l := alC.ships) (Sl.of_own ho7) (by decide)
  have hx7 : w7.cell? ⟨b7, off7 + 0 * 6, none⟩ = some (.int .i64 3) := (hc7 0 (by decide)).1
  simp only [Nat.zero_mul, Nat.add_zero] at hx7
  clear h hD6 hB6 hb7 ho7 hc7 hx6
  simp only [portA, show alC.ships.length = 2 from rfl]
  go_wp2_with fail
  go_ret
  exact ⟨rfl, hB7⟩
end Go.Proofs.YtifmdkcpbajdcacGreatDoor
