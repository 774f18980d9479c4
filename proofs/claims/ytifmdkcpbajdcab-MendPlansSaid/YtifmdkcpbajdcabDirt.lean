/- Walks: what is dirty, in a variable of its own: add. -/
import Derived.Test.YtifmdkcpbajdcabAppend
import Derived.Test.YtifmdkcpbajdcabPortMem
import Derived.Test.YtifmdkcpbajdcabPlain
import Derived.Maps.AppendAt
namespace Go.Proofs.Ytifmdkcpbajdcab
open Go.RowKit Go.Proofs Plain

theorem dirt_info : (Try.prog.info? 93).map (fun i => (i.zero, i.size, i.bytes)) = some (some (.agg #[.int .i64 0, .int .i64 0]), 2, 16) := by kernel_rfl

def OwnD (w : World) (base : Nat) (v : Value) (d : Dirt) : Prop := w.ownsRow base 93 2 v d.length (stepCells d)

section
variable {ops : Array Oper} {rest : List Oper} {o : Oper} {a : Act} {w : World} {Q : Exit → Act → World → Prop}
theorem wpList_append_dirt (hgd : o.guard = none) (s x : Operand) (ho : o.op = .call { callee := .builtin .append, args := #[s, x], argTypes := #[64, 64] })
    (base : Nat) (v : Value) (l : Dirt) (hs : a.eval s = v) (hown : OwnD w base v l) (g c : Nat) (t y : Int) (hx : a.eval x = .slice (some ⟨g, 0, none⟩) 1 c)
    (hg : w.heap[g]? = some (.cells #[.int .i64 t, .int .i64 y] 93 (0, 0))) (hl : l.length ≤ 100000) (hb : base ≤ w.heap.size)
    (h : ∀ v' w', OwnD w' base v' (l ++ [(t, y)]) → w.grownBy w' v.ownBlock → (v'.ownBlock = v.ownBlock ∨ v'.ownBlock = some w.heap.size) → wpList Try.prog ops Q rest (a.put o.dst v') w') : wpList Try.prog ops Q (o :: rest) a w := by
  obtain ⟨i0, hi0, hz0, hzs, hzb⟩ := info_parts dirt_info
  refine wpList_append_own_at w hgd s x 64 ho base 93 i0 _ 2 16 Try.underlying64 hi0 hz0 hzs hzb rfl (by decide) v l.length _ hs hown ⟨g, 0, none⟩ 1 c [.int .i64 t, .int .i64 y] hx rfl (news_row hg (by simp [Value.oneCell'])) (by simp [Value.oneCell']) (by unfold maxLen; omega) (by omega) hb fun v' w' ho' hg' _ hk => ?_
  exact h v' w' (by unfold OwnD; rw [stepCells_app, List.length_append]; exact ho') hg' hk
end

/-- The variable at block g holds what is dirty: a row of its own, among the blocks from base on. -/
structure DirtAt (w : World) (g base : Nat) (v : Value) (d : Dirt) : Prop where
  at_ : w.heap[g]? = some (.cells #[v] 66 (0, 0))
  lt : g < base
  own : OwnD w base v d

/-- What adding may have touched: the variable and its row. -/
structure Adds (g : Nat) (w w' : World) (v v' : Value) : Prop where
  os : w'.os = w.os
  tape : w'.tape = w.tape
  output : w'.output = w.output
  size : w.heap.size ≤ w'.heap.size
  block : ∀ k, k < w.heap.size → k ≠ g → some k ≠ v.ownBlock → w'.heap[k]? = w.heap[k]?
  own : v'.ownBlock = v.ownBlock ∨ ∃ k, v'.ownBlock = some k ∧ w.heap.size ≤ k

section
variable {g base : Nat} {w w' w'' : World} {v v' v'' : Value} {d d' : Dirt}
theorem Adds.of_below (h : Below w.heap.size w w') : Adds g w w' v v := ⟨h.os, h.tape, h.output, h.size, fun k hk _ _ => h.block k hk, .inl rfl⟩
theorem Adds.refl : Adds g w w v v := .of_below (Below.refl _ _)
theorem Adds.trans (h : Adds g w w' v v') (k : Adds g w' w'' v' v'') : Adds g w w'' v v'' := by
  refine ⟨k.os.trans h.os, k.tape.trans h.tape, k.output.trans h.output, Nat.le_trans h.size k.size, fun b hb h1 h2 => ?_, ?_⟩
  · refine (k.block b (Nat.lt_of_lt_of_le hb h.size) h1 ?_).trans (h.block b hb h1 h2)
    rcases h.own with e | ⟨j, e, hj⟩
    · rw [e]; exact h2
    · rw [e]; intro h3; cases h3; omega
  · rcases k.own with e | ⟨j, e, hj⟩
    · rcases h.own with e' | ⟨j, e', hj⟩
      · exact .inl (e.trans e')
      · exact .inr ⟨j, e.trans e', hj⟩
    · exact .inr ⟨j, e, Nat.le_trans h.size hj⟩
theorem OwnD.block (h : OwnD w base v d) : ∀ k, v.ownBlock = some k → base ≤ k ∧ k < w.heap.size := by
  intro k hk
  rcases h.2 with ⟨rfl, _⟩ | ⟨j, cap, cur, rfl, hb, hj, _⟩
  · cases hk
  · simp only [Value.ownBlock, Option.some.injEq] at hk
    subst hk
    exact ⟨hb, (Array.getElem?_eq_some_iff.1 hj).1⟩
theorem OwnD.alloc (h : OwnD w base v d) (o : Obj) : OwnD (w.alloc o) base v d := World.ownsRow.alloc h o
theorem DirtAt.size (h : DirtAt w g base v d) : g < w.heap.size := (Array.getElem?_eq_some_iff.1 h.at_).1
theorem DirtAt.below (h : DirtAt w g base v d) (hb : Below w.heap.size w w') : DirtAt w' g base v d :=
  ⟨(hb.block g h.size).trans h.at_, h.lt, own_below h.own hb⟩
theorem DirtAt.alloc (h : DirtAt w g base v d) (o : Obj) : DirtAt (w.alloc o) g base v d := h.below ((Below.refl _ _).alloc (Nat.le_refl _) _)
theorem DirtAt.drewN (h : DirtAt w g base v d) (n : Nat) : DirtAt (w.drewN n) g base v d := ⟨h.at_, h.lt, h.own⟩
theorem DirtAt.beside (h : DirtAt w g base v d) (p : Addr) (u : Value) (hp : p.block < g) : DirtAt (w.setCell p u) g base v d :=
  ⟨(Below.heap_setCell w p u g (by omega)).trans h.at_, h.lt, ownsRow_setCell_below h.own (by have := h.lt; omega) u⟩
theorem Adds.below {B : Nat} (h : Adds g w w' v v') (hd : DirtAt w g base v d) (hB : B ≤ g) : Below B w w' :=
  ⟨h.os, h.tape, h.output, h.size, fun k hk => h.block k (by have := hd.size; omega) (by omega) (fun e => by have := hd.own.block k e.symm; have := hd.lt; omega)⟩

/-- A slice lies neither in the variable nor in its row. -/
def Off (w : World) (g : Nat) (v : Value) (A : Option Addr) (n : Nat) : Prop := 0 < n → ∃ a, A = some a ∧ a.block < w.heap.size ∧ a.block ≠ g ∧ some a.block ≠ v.ownBlock
theorem Off.adds {A : Option Addr} {n : Nat} (h : Off w g v A n) (k : Adds g w w' v v') : Off w' g v' A n := fun hn => by
  obtain ⟨a, e, h1, h2, h3⟩ := h hn
  refine ⟨a, e, Nat.lt_of_lt_of_le h1 k.size, h2, ?_⟩
  rcases k.own with e' | ⟨j, e', hj⟩
  · rw [e']; exact h3
  · rw [e']; intro h4; cases h4; omega
theorem Off.size {A : Option Addr} {n : Nat} (h : Off w g v A n) (k : w.heap.size ≤ w'.heap.size) : Off w' g v A n := fun hn => by
  obtain ⟨a, e, h1, h2, h3⟩ := h hn
  exact ⟨a, e, Nat.lt_of_lt_of_le h1 k, h2, h3⟩
theorem Off.low {A : Option Addr} {n size : Nat} {xs : List Value} {u : World} (h : Sl u size A n xs) (hs : 0 < size) (hu : u.heap.size ≤ g) (hd : DirtAt w g base v d) : Off w g v A n := fun hn => by
  obtain ⟨b, off, e, hlt⟩ := h.lt (Nat.mul_pos hn hs)
  refine ⟨_, e, ?_, ?_, fun e' => ?_⟩
  · have := hd.size; show b < _; omega
  · show b ≠ _; omega
  · have := hd.own.block b e'.symm; have := hd.lt; omega
theorem Off.new {A : Option Addr} {n size : Nat} {xs : List Value} (h : Sl w' size A n xs) (hs : 0 < size) (hf : Fr w.heap.size A) (hd : DirtAt w g base v d) : Off w' g v A n := fun hn => by
  obtain ⟨b, off, e, hlt⟩ := h.lt (Nat.mul_pos hn hs)
  subst e
  have h1 : w.heap.size ≤ b := hf _ rfl
  refine ⟨_, rfl, hlt, ?_, fun e' => ?_⟩
  · have := hd.size; show b ≠ _; omega
  · have := hd.own.block b e'.symm; omega
theorem Sl.adds {A : Option Addr} {n size : Nat} {xs : List Value} (h : Sl w size A n xs) (ho : Off w g v A n) (k : Adds g w w' v v') : Sl w' size A n xs := by
  refine ⟨h.1, fun hn => ?_⟩
  obtain ⟨b, off, e, hc⟩ := h.2 hn
  obtain ⟨a, e', h1, h2, h3⟩ := ho (Nat.pos_of_mul_pos_right hn)
  rw [e] at e'; cases e'
  refine ⟨b, off, e, fun j hj => ?_⟩
  rw [← hc j hj]
  exact World.cell?_of_block (w := w) (k.block b h1 h2 h3)
end

/-- What is dirty behind a call that adds. -/
def RetDirt (g base : Nat) (v : Value) (d : Dirt) (w : World) (e : Ending) (w' : World) : Prop :=
  e = .returned (.tuple #[]) ∧ ∃ v', DirtAt w' g base v' d ∧ Adds g w w' v v'

theorem DirtAt.form {g base : Nat} {v : Value} {d : Dirt} {w : World} (h : DirtAt w g base v d) : ∃ B c, v = .slice B d.length c := own_form h.own
theorem DirtAt.frozen {g base : Nat} {v : Value} {d : Dirt} {w : World} (h : DirtAt w g base v d) : w.frozen? ⟨g, 0, none⟩ = false := by
  have := h.at_; simp [World.frozen?, this]
theorem DirtAt.cell {g base : Nat} {v : Value} {d : Dirt} {w : World} (h : DirtAt w g base v d) : w.cell? ⟨g, 0, none⟩ = some v := cell_of_row _ _ 0 _ _ _ h.at_

/-- The row has grown, and the variable is written. -/
theorem dirt_grown {g base : Nat} {v v' : Value} {d d' : Dirt} {w w1 w' : World} (h : DirtAt w1 g base v d) (hb : Below w.heap.size w w1) (hlt : g < w.heap.size) (ho : OwnD w' base v' d') (hg : w1.grownBy w' v.ownBlock)
    (hk : v'.ownBlock = v.ownBlock ∨ v'.ownBlock = some w1.heap.size) :
    DirtAt (w'.setCell ⟨g, 0, none⟩ v') g base v' d' ∧ Adds g w (w'.setCell ⟨g, 0, none⟩ v') v v' := by
  have hne : some g ≠ v.ownBlock := fun e => by have := h.own.block g e.symm; have := h.lt; omega
  have hat : w'.heap[g]? = some (.cells #[v] 66 (0, 0)) := (hg.block g h.size hne).trans h.at_
  have hr := setCell_eq_setRow w' g 0 #[v] 66 (0, 0) v' hat
  refine ⟨⟨?_, h.lt, ownsRow_setCell_below ho (by show g < base; exact h.lt) v'⟩, ⟨?_, ?_, ?_, ?_, ?_, ?_⟩⟩
  · rw [hr]; exact setRow_heap w' g _ _ _ _ hat
  · exact (hg.os).trans hb.os
  · exact (hg.tape).trans hb.tape
  · exact (hg.output).trans hb.output
  · show _ ≤ (w'.setCell _ _).heap.size
    have := hg.size; have := hb.size
    simp [World.setCell]; omega
  · intro k hk1 hk2 hk3
    exact (Below.heap_setCell w' ⟨g, 0, none⟩ v' k hk2).trans ((hg.block k (by have := hb.size; omega) hk3).trans (hb.block k hk1))
  · rcases hk with e | e
    · exact .inl e
    · exact .inr ⟨_, e, hb.size⟩

theorem cell_grown {g base : Nat} {v : Value} {d : Dirt} {w1 w' : World} (h : DirtAt w1 g base v d) (hg : w1.grownBy w' v.ownBlock) : w'.cell? ⟨g, 0, none⟩ = some v ∧ w'.frozen? ⟨g, 0, none⟩ = false := by
  have hne : some g ≠ v.ownBlock := fun e => by have := h.own.block g e.symm; have := h.lt; omega
  exact ⟨(World.cell?_of_block (w := w1) (hg.block g h.size hne)).trans h.cell, (World.frozen?_of_block (w := w1) (hg.block g h.size hne)).trans h.frozen⟩

set_option maxRecDepth 100000 in
set_option maxHeartbeats 4000000 in
theorem dirt_add (g base : Nat) (v : Value) (d : Dirt) (fr to : Int) (w : World) (h : DirtAt w g base v d) (hl : d.length ≤ 50000) (hb : base ≤ w.heap.size) :
    Calls Try.prog 39 #[.pointer (some ⟨g, 0, none⟩), .int .i64 fr, .int .i64 to] w (RetDirt g base v (addD d fr to) w) := by
  have c0 := h.cell
  obtain ⟨B, c, hv⟩ := h.form
  by_cases hlt : fr < to
  · have h1 : decide (fr < to) = true := by simpa using hlt
    have hgs := h.size
    have hn := Lib.hid h.own
    have HH := Lib.hid h
    subst hv
    go_enter Try.func39, Try.ntmps39
    go_wp2_with (refine wpList_append_dirt rfl _ _ rfl base (.slice B d.length c) d rfl (OwnD.alloc HH.out.own _) _ _ fr to rfl (heap_alloc_new _ _) (by omega) (by simp; omega) ?_; intro v' w' ho hg hk; obtain ⟨B', c', rfl⟩ := own_form ho; obtain ⟨k1, k2⟩ := cell_grown (HH.out.alloc _) hg; have HR := Lib.hid (dirt_grown (w := w) (HH.out.alloc _) ((Below.refl _ _).alloc (Nat.le_refl _) _) HH.out.size ho hg hk))
    go_end0
    obtain ⟨r1, r2⟩ := HR.out
    rw [List.length_append] at r1 r2
    exact ⟨rfl, _, by unfold addD; rw [if_pos hlt]; exact r1, r2⟩
  · have h1 : decide (fr < to) = false := by simpa using hlt
    subst hv
    go_enter Try.func39, Try.ntmps39
    go_wp2
    go_end0
    exact ⟨rfl, _, by unfold addD; rw [if_neg (by omega)]; exact h, .refl⟩
end Go.Proofs.Ytifmdkcpbajdcab
