/- Walks: a desk answers at all; what a look may turn. -/
import Derived.Test.YtifmdkcpbajdcabGreatDoorDeskOp
import Derived.Test.YtifmdkcpbajdcabGreatDoorAlivePlain
set_option linter.unusedVariables false
set_option linter.unusedSimpArgs false
namespace Go.Proofs.YtifmdkcpbajdcabGreatDoor
open Go.RowKit Go.Proofs Plain
structure Kp (M : Nat -> Prop) (w w' : World) : Prop where
  os : w'.os = w.os
  tape : w'.tape = w.tape
  output : w'.output = w.output
  size : w.heap.size <= w'.heap.size
  block : ∀ k, k < w.heap.size -> ¬ M k -> w'.heap[k]? = w.heap[k]?
section
variable {w w' w2 : World} {M G : Nat -> Prop} {g n : Nat} {d : Desk}
theorem Kp.of_below (h : Below w.heap.size w w') : Kp M w w' := ⟨h.os, h.tape, h.output, h.size, fun k hk _ => h.block k hk⟩
theorem Kp.refl (w : World) : Kp M w w := Kp.of_below (Below.refl _ _)
theorem Kp.trans (h : Kp M w w') (k : Kp M w' w2) : Kp M w w2 :=
  ⟨k.os.trans h.os, k.tape.trans h.tape, k.output.trans h.output, Nat.le_trans h.size k.size, fun i hi hn => (k.block i (Nat.lt_of_lt_of_le hi h.size) hn).trans (h.block i hi hn)⟩
theorem Kp.below (h : Kp M w w') (hM : ∀ b, M b -> n <= b) (hn : n <= w.heap.size) : Below n w w' := ⟨h.os, h.tape, h.output, h.size, fun k hk => h.block k (Nat.lt_of_lt_of_le hk hn) fun hm => by have := hM k hm; omega⟩
theorem Kp.none (h : Kp (fun _ => False) w w') : Below w.heap.size w w' := ⟨h.os, h.tape, h.output, h.size, fun k hk => h.block k hk fun hm => hm⟩
theorem Kp.drew (h : Kp M w w') : Kp M w w'.drew := ⟨h.os, h.tape, h.output, h.size, h.block⟩
end
theorem field_ships (v0 v2 v3 v4 v5 v6 v7 v8 v9 v10 v11 v12 v13 v14 v15 : Value) (A : Option Addr) (n c : Nat) (w : World) : (Instr.field 36 (.agg #[v0, .slice A n c, v2, v3, v4, v5, v6, v7, v8, v9, v10, v11, v12, v13, v14, v15]) 1).run Tryz.prog w = .ok (.slice A n c) w := by kernel_rfl
attribute [local go_sem] field_ships
theorem play_one (l : List Txt) (k : Nat) (s : Txt) (d : Desk) (h : l[k]? = some s) : playL d (l.take (k + 1)) = (tellD (playL d (l.take k)) s).1 := by
  rw [List.take_add_one, h, Option.toList_some, play_snoc]
theorem play_le (l : List Txt) (d : Desk) : (playL d l).acts <= d.acts + l.length := by
  induction l generalizing d with
  | nil => simp [playL]
  | cons s l ih =>
    have h := ih (tellD d s).1
    have h2 : (tellD d s).1.acts <= d.acts + 1 := by
      unfold tellD
      split
      · simp
      · cases parseL s <;> simp
    rw [playL, List.length_cons]; omega
end Go.Proofs.YtifmdkcpbajdcabGreatDoor
