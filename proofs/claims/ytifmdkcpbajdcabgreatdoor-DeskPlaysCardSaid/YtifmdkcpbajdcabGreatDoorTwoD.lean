/- Words: two desks side by side, the program's and the document's. -/
import Derived.Test.YtifmdkcpbajdcabGreatDoorRDeskT
import Derived.Test.YtifmdkcpbajdcabGreatDoorRefP2
set_option linter.unusedVariables false
set_option linter.unusedSimpArgs false
namespace Go.Proofs.YtifmdkcpbajdcabGreatDoor
open Go.RowKit Go.Proofs Plain
theorem eq_replyP (a b : Int) (w : World) : (Op.equalIn 10000 29 (.agg #[.int .i64 a, .int .i64 b]) (.agg #[.int .i64 a, .int .i64 b])).run Tryz.prog w = .ok true w := by simp [go_sem]
theorem newR (w : World) (G : Nat -> Prop) (hg : G w.heap.size) (hG : ∀ b, G b -> b < w.heap.size + 1) : RDeskAt (w.alloc (.cells #[.int .i64 0, .slice none 0 0, .int .i64 0, .int .i64 0, .int .i64 0, .int .i64 0, .int .i64 0, .int .i64 0, .int .i64 0, .int .i64 0, .int .i64 0, .int .i64 0, .int .i64 0, .int .i64 0, .int .i64 0, .int .i64 0, .pointer none, .int .i64 0] 54)) G w.heap.size Desk.new :=
  ⟨hg, fun b hb => by rw [World.size_alloc]; exact hG b hb, none, 0, none, .int .i64 0, .int .i64 0, .int .i64 0, .int .i64 0, .int .i64 0, .int .i64 0, .int .i64 0, .int .i64 0, .int .i64 0, .int .i64 0, .int .i64 0, .int .i64 0, .int .i64 0, .int .i64 0, rfl, heap_alloc_new w _, Nat.le_refl _, ⟨Sl.zero _ _ _, fun h => absurd h (by decide)⟩, rfl⟩
def G2 (g h : Nat) : Nat -> Prop := fun b => b = g \/ b = h
structure BothAt (w : World) (g h : Nat) (d : Desk) (W : World) : Prop where
  below : Below w.heap.size w W
  lowg : w.heap.size <= g
  lowh : w.heap.size <= h
  ne : g ≠ h
  desk : DeskAt W (G2 g h) g d
  ref : RDeskAt W (G2 g h) h d
theorem BothAt.go {w W W' : World} {g h : Nat} {d : Desk} (b : BothAt w g h d W) (hb : Below W.heap.size W W') : BothAt w g h d W' :=
  ⟨bG_ b.below hb, b.lowg, b.lowh, b.ne, b.desk.below hb, b.ref.below hb⟩
theorem play_oneP (l : List Txt) (k : Nat) (s : Txt) (d : Desk) (h : l[k]? = some s) : playL d (l.take (k + 1)) = (tellD (playL d (l.take k)) s).1 := by
  rw [List.take_add_one, h, Option.toList_some, play_snoc]
theorem play_leP (l : List Txt) (d : Desk) : (playL d l).acts <= d.acts + l.length := by
  induction l generalizing d with
  | nil => simp [playL]
  | cons s l ih =>
    have h := ih (tellD d s).1
    have h2 : (tellD d s).1.acts <= d.acts + 1 := by
      unfold tellD
      split
      · simp
      · cases parseL s <;> simp
    rw [playL, List.length_cons]; omega
theorem play_acts_lt (l : List Txt) (k : Nat) (hk : k < 250) : (playL Desk.new (l.take k)).acts < 250 := by
  have := play_leP (l.take k) Desk.new
  rw [List.length_take] at this
  have h0 : Desk.new.acts = 0 := rfl
  omega
end Go.Proofs.YtifmdkcpbajdcabGreatDoor
