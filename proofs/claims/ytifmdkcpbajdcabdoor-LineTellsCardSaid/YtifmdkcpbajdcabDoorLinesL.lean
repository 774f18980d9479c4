/- Walks: lines answer at all. -/
import Derived.Test.YtifmdkcpbajdcabDoorPrint
import Derived.Laws.StructEq
set_option linter.unusedVariables false
set_option linter.unusedSimpArgs false
namespace Go.Proofs.YtifmdkcpbajdcabDoor
open Go.RowKit Go.Proofs Plain

def exT : Txt := [32, 99, 111, 109, 101, 32, 52, 32, 32, 57, 32, 48]
def exO : Order := ⟨1, 4, 9, 0⟩
def exS : Txt := [99, 111, 109, 101, 32, 52, 32, 57, 32, 48]
theorem ex_toks : toks exT = [[99, 111, 109, 101], [52], [57], [48]] := by decide
theorem ex_itoa : Lib.itoa 4 = [52] ∧ Lib.itoa 9 = [57] ∧ Lib.itoa 0 = [48] := by
  refine ⟨?_, ?_, ?_⟩ <;> kernel_rfl
theorem ex_parse : parseL exT = some exO := by
  have h4 : numOf [52] = some 4 := by rw [← ex_itoa.1]; exact numOf_itoa (by decide)
  have h9 : numOf [57] = some 9 := by rw [← ex_itoa.2.1]; exact numOf_itoa (by decide)
  have h0 : numOf [48] = some 0 := by rw [← ex_itoa.2.2]; exact numOf_itoa (by decide)
  unfold parseL
  rw [if_neg (by decide), ex_toks, parse_kind (by decide), if_pos (by decide)]
  simp only [numsOf, h4, h9, h0]
  rfl
theorem ex_good : goodO exO = true := by decide
theorem ex_print : printL exO = exS := by
  unfold printL tellT nums
  show ([99, 111, 109, 101] : Txt) ++ ([4, 9, 0] : List Int).flatMap (fun n => 32 :: Lib.itoa n) = exS
  simp only [List.flatMap_cons, List.flatMap_nil, ex_itoa.1, ex_itoa.2.1, ex_itoa.2.2]
  rfl
theorem ex_wf : OrdWf exO := ⟨by decide, by decide, by decide, by decide⟩

set_option maxRecDepth 100000 in
set_option maxHeartbeats 8000000 in
theorem linesLaw_any (B : Nat) (w : World) (hL : LineAt B w) :
    Calls Tryd.prog 10 #[] w fun e w' => e = .returned (.bool true) ∧ Below w.heap.size w w' := by
  have hp := parse_any B ⟨#[32, 99, 111, 109, 101, 32, 52, 32, 32, 57, 32, 48]⟩ w hL (by decide)
  rw [show parseL (ByteArray.data ⟨#[32, 99, 111, 109, 101, 32, 52, 32, 32, 57, 32, 48]⟩).toList = some exO from ex_parse] at hp
  have HP := Lib.hid hp
  clear hp
  go_enter Tryd.func10, Tryd.ntmps10
  go_wp2_with fail
  refine HP.out.mono ?_
  rintro e w1 ⟨rfl, hb1⟩
  have hL1 := hL.below (hb1.mono hL.size)
  have hB1 : Below w.heap.size w (w1.alloc (.cells (ordA exO) 23)) := hb1.alloc hb1.size _
  have hL2 := hL1.below (((Below.refl _ _).alloc (Nat.le_refl _) (.cells (ordA exO) 23)).mono hL1.size)
  have hO2 := OrdAt.new w1 exO
  have hpr := print_any B exO (w1.alloc (.cells (ordA exO) 23)) ex_wf hL2
  simp only [oOf, eOf, Option.getD_some, Option.isSome_some, if_true, ordA, exO] at hB1 hO2 hpr ⊢
  have HPR := Lib.hid hpr
  clear hpr
  go_wp2_with fail
  refine HPR.out.mono ?_
  rintro e w3 ⟨z, rfl, hz, hb3⟩
  rw [show goodO (⟨1, 4, 9, 0⟩ : Order) = true from ex_good] at hz ⊢
  rw [if_pos rfl] at hz
  have hzb : z = ⟨#[99, 111, 109, 101, 32, 52, 32, 57, 32, 48]⟩ := by rw [hz]; show bs (printL exO) = _; rw [ex_print]; rfl
  subst hzb
  clear hz
  simp only [if_true]
  have hO3 := OrdAt.below (o := ⟨1, 4, 9, 0⟩) hO2 hb3 (by simp)
  obtain ⟨f0, f1, f2, f3, e0, e1, e2, e3⟩ := hO3.facts
  dsimp only at e0 e1 e2 e3
  have hB3 := below_line hB1 hb3
  clear f0 f1 f2 f3 hO3 hO2 hB1 hb3 hL1 hL2
  go_wp2_with fail
  go_ret
  exact ⟨rfl, hB3⟩
end Go.Proofs.YtifmdkcpbajdcabDoor
