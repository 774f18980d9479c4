/- Words: the desk behind lines; two of them. -/
import Derived.Test.YtifmdkcpbajdcabGreatDoorPlayQuiet
import Derived.Test.YtifmdkcpbajdcabGreatDoorTopSame
set_option linter.unusedVariables false
set_option linter.unusedSimpArgs false
namespace Go.Proofs.YtifmdkcpbajdcabGreatDoor
open Go.RowKit Go.Proofs Plain

theorem field_code (c n : Int) (w : World) : (Instr.field 29 (.agg #[.int .i64 c, .int .i64 n]) 0).run Tryz.prog w = .ok (.int .i64 c) w := by kernel_rfl

/-- The desk behind lines. -/
def behind (l : List ByteArray) : Desk := playL Desk.new ((l.map (·.data.toList)).take 80)
theorem behind_ok (l : List ByteArray) : DOk (behind l) := play_ok _ new_ok
theorem behind_acts (l : List ByteArray) : (behind l).acts = min l.length 80 := by
  have h := play_acts ((l.map (·.data.toList)).take 80) Desk.new (by
    rw [List.length_take]; have : Desk.new.acts = 0 := rfl; omega)
  unfold behind
  rw [h, List.length_take, List.length_map]
  have : Desk.new.acts = 0 := rfl
  omega

/-- Two desks behind the same lines, each in blocks of its own. -/
structure Twin (w W : World) (Bt : Nat) (l : List ByteArray) (g h : Nat) : Prop where
  below : Below w.heap.size w W
  line : LineAt Bt W
  bt : Bt ≤ g
  low : w.heap.size ≤ g
  lt : g < h
  one : DeskAt W (GR (fun b => b = g) h) g (behind l)
  two : DeskAt W (GR (fun b => b = g) h) h (behind l)

theorem twin_of {w w1 w2 : World} {Bt : Nat} {l : List ByteArray} {g h : Nat} (hL : LineAt Bt w) (hg : w.heap.size ≤ g) (hd : DeskAt w1 (GR (fun _ => False) g) g (behind l)) (hb1 : Below w.heap.size w w1)
    (hh : w1.heap.size ≤ h) (hd2 : DeskAt w2 (GR (fun b => b = g) h) h (behind l)) (hb2 : Below w1.heap.size w1 w2) : Twin w w2 Bt l g h := by
  have hb := below_go hb1 hb2
  have hglt := hd.lt
  refine ⟨hb, hL.below (hb.mono hL.size), Nat.le_trans hL.size hg, hg, by omega, ?_, hd2⟩
  exact hd.join hb2 (fun b hb => by
    rcases hb with hb | hb
    · exact .inl (.inr hb)
    · exact .inr (by omega)) (.inl rfl) hd2.all

/-- Two desks, of which the first is told something. -/
structure Pair (w W : World) (Bt : Nat) (g h : Nat) (d e : Desk) : Prop where
  below : Below w.heap.size w W
  line : LineAt Bt W
  bt : Bt ≤ g
  low : w.heap.size ≤ g
  lt : g < h
  one : DeskAt W (GR (fun b => b = g) h) g d
  two : DeskAt W (GR (fun b => b = g) h) h e
theorem Twin.pair {w W : World} {Bt : Nat} {l : List ByteArray} {g h : Nat} (t : Twin w W Bt l g h) : Pair w W Bt g h (behind l) (behind l) := ⟨t.below, t.line, t.bt, t.low, t.lt, t.one, t.two⟩
section
variable {w W W' : World} {Bt g h : Nat} {d e d' : Desk}
theorem Pair.go (t : Pair w W Bt g h d e) (hb : Below W.heap.size W W') : Pair w W' Bt g h d e :=
  ⟨below_go t.below hb, t.line.below (hb.mono t.line.size), t.bt, t.low, t.lt, t.one.below hb, t.two.below hb⟩
theorem Pair.told (t : Pair w W Bt g h d e) (hd : DeskAt W' (GR (fun b => b = g) h) g d') (ht : Tn g W W') : Pair w W' Bt g h d' e :=
  ⟨t.below.trans (ht.below t.low t.below.size), t.line.below (ht.below t.bt t.line.size), t.bt, t.low, t.lt, hd, t.two.beside ht (by have := t.lt; omega) (.inl rfl)⟩
theorem Pair.told2 (t : Pair w W Bt g h d e) (hd : DeskAt W' (GR (fun b => b = g) h) h d') (ht : Tn h W W') : Pair w W' Bt g h d d' :=
  ⟨t.below.trans (ht.below (Nat.le_trans t.low (Nat.le_of_lt t.lt)) t.below.size), t.line.below (ht.below (Nat.le_trans t.bt (Nat.le_of_lt t.lt)) t.line.size), t.bt, t.low, t.lt, t.one.beside ht (by have := t.lt; omega) (.inr rfl), hd⟩
end
end Go.Proofs.YtifmdkcpbajdcabGreatDoor
