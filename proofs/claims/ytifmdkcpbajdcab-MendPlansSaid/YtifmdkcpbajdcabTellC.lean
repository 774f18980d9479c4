/- Walks: an order that a ship comes. -/
import Derived.Test.YtifmdkcpbajdcabTellW
import Derived.Deep.AppendLies
import Derived.Deep.RegionHeld3
namespace Go.Proofs.Ytifmdkcpbajdcab
open Go.RowKit Go.Proofs Plain

def orderA (o : Order) : Array Value := #[.int .i64 o.kind, .int .i64 o.a, .int .i64 o.b, .int .i64 o.c]

/-- What telling hands back: the port's variable is g, its ships are one's own from base on. -/
def RetTell (g base : Nat) (r : Port × Int × Int) (w : World) (e : Ending) (w' : World) : Prop :=
  ∃ A c, e = .returned (.tuple #[.int .i64 r.2.1, .int .i64 r.2.2]) ∧ PortAt w' g r.1 A c ∧ OwnK w' base (.slice A r.1.ships.length c) r.1.ships ∧ (Value.slice A r.1.ships.length c).ownBlock ≠ some g ∧ Below base w w'

theorem ret_tell {g base : Nat} {r : Port × Int × Int} {w w' : World} {q : Port} {n e : Int} {A : Option Addr} {c : Nat} (hr : r = (q, n, e)) (hP : PortAt w' g q A c) (ho : OwnK w' base (.slice A q.ships.length c) q.ships) (hg : (Value.slice A q.ships.length c).ownBlock ≠ some g) (hb : Below base w w') :
    RetTell g base r w (.returned (.tuple #[.int .i64 n, .int .i64 e])) w' := by
  subst hr; exact ⟨A, c, rfl, hP, ho, hg, hb⟩

theorem come_cells (l : List Ship) (s : Ship) : shipCells (l ++ [s]) = shipCells l ++ [.int .i64 s.state, .int .i64 s.wide, .int .i64 s.long, .int .i64 s.cls, .int .i64 s.since, .int .i64 s.queued] := by
  rw [shipCells_app]; simp [shipCells, shipV]

theorem own_one' {w w' : World} {base size n g : Nat} {T : TypeId} {v : Value} {xs : List Value} (h : w.ownsRow base T size v n xs) (hr : OneRow g w w') (hg : v.ownBlock ≠ some g) : w'.ownsRow base T size v n xs := by
  refine ⟨h.1, ?_⟩
  rcases h.2 with hn | ⟨b, cap, cur, hv, hb, hh, rest⟩
  · exact .inl hn
  · exact .inr ⟨b, cap, cur, hv, hb, (hr.block b (fun e => hg (by rw [hv, e]; rfl))).trans hh, rest⟩

/-- An operation that is not to be looked at ahead of its time. -/
def hideOp (o : Op) : Op := o
attribute [local go_sem] hideOp

set_option maxRecDepth 100000 in
set_option maxHeartbeats 8000000 in
theorem tell_come (p : Port) (A : Option Addr) (c g base : Nat) (oa ob oc : Int) (w : World) (hP : PortAt w g p A c) (hown : OwnK w base (.slice A p.ships.length c) p.ships) (hog : (Value.slice A p.ships.length c).ownBlock ≠ some g) (hgb : base ≤ g) (hbs : base ≤ w.heap.size)
    (hx : 0 ≤ p.next ∧ p.next < 1048576) (hl : p.ships.length < 14) (ha : inB oa 1 16 = true) (hb : inB ob 1 300 = true) (hc : inB oc 0 3 = true) :
    Calls Try.prog 47 #[.pointer (some ⟨g, 0, none⟩), .agg (orderA ⟨1, oa, ob, oc⟩)] w (RetTell g base (p.come ⟨1, oa, ob, oc, 0, p.next⟩, p.ships.length, 0) w) := by
  obtain ⟨i0, hi0, hz0, hz1, hz2⟩ := info_parts ship_info
  have HA := Lib.hid ha
  have HB := Lib.hid hb
  have HC := Lib.hid hc
  have q0 := hP.now
  have q1 := hP.ships
  have q15 := hP.next
  have f1 := hP.frozen 1
  have f15 := hP.frozen 15
  have hglt := hP.lt
  obtain ⟨x0, x1⟩ := hx
  clear ha hb hc
  have d1 : decide (14 ≤ (p.ships.length : Int)) = false := by simp; omega
  have d2 : decide (1048576 ≤ p.next) = false := by simp; omega
  simp only [orderA]
  go_enter Try.func47, Try.ntmps47
  go_wp2_with (first
    | (go_at_call 27; (with_reducible refine (psmall_is _ HA.out).mono ?_); rintro e w' ⟨rfl, rfl⟩)
    | (go_at_call 27; (with_reducible refine (psmall_is _ HB.out).mono ?_); rintro e w' ⟨rfl, rfl⟩)
    | (go_at_call 27; (with_reducible refine (psmall_is _ HC.out).mono ?_); rintro e w' ⟨rfl, rfl⟩))
  have hwb : Below w.heap.size w (w.alloc (.cells #[.int .i64 1, .int .i64 oa, .int .i64 ob, .int .i64 oc] 45)) := (Below.refl _ _).alloc (Nat.le_refl _) _
  have ho1 : OwnK (w.alloc (.cells #[.int .i64 1, .int .i64 oa, .int .i64 ob, .int .i64 oc] 45)) base (.slice A p.ships.length c) p.ships := World.ownsRow.alloc hown _
  have hP1 := hP.alloc (.cells #[.int .i64 1, .int .i64 oa, .int .i64 ob, .int .i64 oc] 45)
  have hc1 : ∀ i, i < 4 → (w.alloc (.cells #[.int .i64 1, .int .i64 oa, .int .i64 ob, .int .i64 oc] 45)).cell? ⟨w.heap.size, i, none⟩ = (#[.int .i64 1, .int .i64 oa, .int .i64 ob, .int .i64 oc] : Array Value)[i]? := fun i hi => cell_of_row _ w.heap.size i _ _ _ (heap_alloc_new w _)
  have hz1' : (w.alloc (.cells #[.int .i64 1, .int .i64 oa, .int .i64 ob, .int .i64 oc] 45)).heap.size = w.heap.size + 1 := by simp
  have hob : (Value.slice A p.ships.length c).ownBlock ≠ some w.heap.size := fun e => by
    rcases hown.2 with ⟨hv, _⟩ | ⟨gg, cap, cur, hv, _, hh, _⟩
    · rw [hv] at e; cases e
    · rw [hv] at e; simp only [Value.ownBlock, Option.some.injEq] at e
      have := (Array.getElem?_eq_some_iff.1 hh).1
      omega
  generalize w.alloc (.cells #[.int .i64 1, .int .i64 oa, .int .i64 ob, .int .i64 oc] 45) = wr at *
  have k1 : wr.cell? ⟨w.heap.size, 1, none⟩ = some (.int .i64 oa) := hc1 1 (by omega)
  have k2 : wr.cell? ⟨w.heap.size, 2, none⟩ = some (.int .i64 ob) := hc1 2 (by omega)
  have k3 : wr.cell? ⟨w.heap.size, 3, none⟩ = some (.int .i64 oc) := hc1 3 (by omega)
  have q1' := hP1.ships
  have q15' := hP1.next
  have f1' := hP1.frozen 1
  have hne : w.heap.size ≠ g := by omega
  have hne' : g ≠ w.heap.size := by omega
  have hl1 : p.ships.length + 1 ≤ maxLen := by unfold maxLen; omega
  have hl2 : (p.ships.length + 1) * 48 ≤ 140737488355328 := by omega
  have hlt1 : w.heap.size < wr.heap.size := by omega
  have hlt2 : g < wr.heap.size := by omega
  have hlt3 : base ≤ wr.heap.size + 1 := by omega
  have HWB := Lib.hid hwb
  have hst : ∀ (w1 : World) (v : Value), w1.cell? ⟨g, 15, none⟩ = some (.int .i64 p.next) → (w1.setCell ⟨g, 1, none⟩ v).cell? ⟨g, 15, none⟩ = some (.int .i64 p.next) := fun w1 v h => by rw [World.cell?_setCell_other (h := (by simp : (⟨g, 1, none⟩ : Addr) ≠ ⟨g, 15, none⟩)) ..]; exact h
  have r1' : ∀ o : Obj, (wr.alloc o).drew.cell? ⟨g, 1, none⟩ = some (.slice A p.ships.length c) := fun o => (hP1.alloc o).ships
  have r2' : ∀ o : Obj, (wr.alloc o).drew.frozen? ⟨g, 1, none⟩ = false := fun o => (hP1.alloc o).frozen 1
  clear hc1 q0 q1 q15 f1 f15 hP hown hwb hz1'
  rw [show Op.load 22 (Operand.tmp 50) = hideOp (Op.load 22 (Operand.tmp 50)) from rfl]
  go_region_held3 (fun w' => w'.cell? ⟨w.heap.size, 1, none⟩ = some (.int .i64 oa) ∧ w'.cell? ⟨w.heap.size, 2, none⟩ = some (.int .i64 ob) ∧ w'.cell? ⟨w.heap.size, 3, none⟩ = some (.int .i64 oc) ∧ w'.cell? ⟨g, 15, none⟩ = some (.int .i64 p.next))
    (first
      | go_keep
      | (go_split_ands
         refine ⟨?_, ?_, ?_, ?_⟩
         · (rw [hgrow.cell_far _ (by simp; omega) (Ne.symm hob)]; assumption)
         · (rw [hgrow.cell_far _ (by simp; omega) (Ne.symm hob)]; assumption)
         · (rw [hgrow.cell_far _ (by simp; omega) (Ne.symm hob)]; assumption)
         · (rw [hgrow.cell_far _ (by simp; omega) (Ne.symm hog)]; assumption))
      | (go_split_ands; refine ⟨?_, ?_, ?_, hst _ _ ?_⟩ <;> first | assumption | go_keep))
    ((refine step_append_lies _ (by rfl) _ _ _ (by rfl) base 38 i0 _ 6 48 Try.underlying22 hi0 hz0 hz1 hz2 rfl (by omega) (.slice A p.ships.length c) p.ships.length (shipCells p.ships) (by rfl) ((ho1.alloc _).drew)
        ⟨wr.heap.size, 0, none⟩ 1 1 [.int .i64 1, .int .i64 oa, .int .i64 ob, .int .i64 oc, .int .i64 0, .int .i64 p.next] (by rfl) (by rfl) (World.news_of_block (cs := #[.int .i64 1, .int .i64 oa, .int .i64 ob, .int .i64 oc, .int .i64 0, .int .i64 p.next]) (t := 38) (fr := (0, 0)) (heap_alloc_new wr _)) (by simp [Value.oneCell'])
        (by omega) hl1 hl2 (by simp; omega) (wr.heap.size + 1) (by simp) ?_; intro gg cap w1 hown1 hgrow hat hlt; have r1 := (hgrow.cell_far ⟨g, 1, none⟩ (by simp; omega) (Ne.symm hog)).trans (r1' _); have r2 := (hgrow.frozen_far ⟨g, 1, none⟩ (by simp; omega) (Ne.symm hog)).trans (r2' _)))
  all_goals
    have hP2 : PortAt w1 g p A c := (hgrow.block g (by simp; omega) (Ne.symm hog)).trans (hP1.alloc _)
    have hP3 := hP2.put 1 (.slice (some ⟨gg, 0, none⟩) (p.ships.length + 1) cap) { p with ships := p.ships ++ [⟨1, oa, ob, oc, 0, p.next⟩] } (some ⟨gg, 0, none⟩) cap (by simp [portA, Port.keep])
    have hown2 : OwnK w1 base (.slice (some ⟨gg, 0, none⟩) (p.ships.length + 1) cap) (p.ships ++ [⟨1, oa, ob, oc, 0, p.next⟩]) := by
      unfold OwnK; rw [come_cells, List.length_append]; exact hown1
    have hgg : (Value.slice (some ⟨gg, 0, none⟩) (p.ships.length + 1) cap).ownBlock ≠ some g := fun e => by
      simp only [Value.ownBlock, Option.some.injEq] at e
      rcases hat with h | h
      · exact hog (by rw [h, e])
      · omega
    have hown3 := own_one' hown2 (OneRow.of_cell w1 ⟨g, 1, none⟩ (.slice (some ⟨gg, 0, none⟩) (p.ships.length + 1) cap)) hgg
    have hb2 : Below base w w1 := ((HWB.out.mono hbs).alloc (by omega) _).drew.grown hgrow (by simp; omega) (fun k hk => own_block ho1 k hk)
    have hb3 := hb2.setCell (p := ⟨g, 1, none⟩) hgb (.slice (some ⟨gg, 0, none⟩) (p.ships.length + 1) cap)
    have q15 := hP3.next
    have f15 := hP2.frozen 15
    have f15b := hP3.frozen 15
    have f1b := hP2.frozen 1
    have hP4 := hP3.put 15 (.int .i64 (p.next + 1)) (p.come ⟨1, oa, ob, oc, 0, p.next⟩) (some ⟨gg, 0, none⟩) cap (by simp [portA, Port.keep, Port.come])
    have hown4 := own_one' hown3 (OneRow.of_cell _ ⟨g, 15, none⟩ (.int .i64 (p.next + 1))) hgg
    have hb4 := hb3.setCell (p := ⟨g, 15, none⟩) hgb (.int .i64 (p.next + 1))
    have HP4 := Lib.hid hP4
    have HO4 := Lib.hid hown4
    have HB4 := Lib.hid hb4
    have HGG := Lib.hid hgg
    clear hP3 hown3 hb3 hP4 hown4 hb4 hP2 hown2 hb2
    go_wp2_with fail
    go_ret2
    refine ⟨some ⟨gg, 0, none⟩, cap, rfl, HP4.out, ?_, HGG.out, HB4.out⟩
    have := HO4.out
    unfold OwnK
    simpa [Port.come] using this
end Go.Proofs.Ytifmdkcpbajdcab
