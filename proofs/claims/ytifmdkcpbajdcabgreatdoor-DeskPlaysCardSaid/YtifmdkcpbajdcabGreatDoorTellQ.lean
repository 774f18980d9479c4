/- Walks: a new port; a port with ships of its own. -/
import Derived.Test.YtifmdkcpbajdcabGreatDoorRankQ
import Derived.Laws.Tables
import Derived.BigRegion
import Derived.Deep.AppendLies
import Derived.Deep.RegionHeld3
set_option linter.unusedVariables false
set_option linter.unusedSimpArgs false
set_option maxHeartbeats 8000000
namespace Go.Proofs.YtifmdkcpbajdcabGreatDoor
open Go.RowKit Go.Proofs Plain
open Go.Act renaming put -> aP, eval -> aE
def OwnK (w : World) (base : Nat) (v : Value) (l : List Ship) : Prop := w.ownsRow base 61 6 v l.length (shC l)
theorem ship_info : (Tryz.prog.info? 61).map (fun i => (i.zero, i.size, i.bytes)) = some (some (.agg #[.int .i64 0, .int .i64 0, .int .i64 0, .int .i64 0, .int .i64 0, .int .i64 0]), 6, 48) := by kernel_rfl
theorem ship_one (l : List Ship) : ∀ u ∈ shC l, u.oneCell' = true := by
  induction l with
  | nil => intro u h; simp [shC] at h
  | cons s r ih =>
    intro u h
    simp only [shC, List.mem_append] at h
    rcases h with h | h
    · simp only [shipV, List.mem_cons, List.not_mem_nil, or_false] at h
      rcases h with rfl | rfl | rfl | rfl | rfl | rfl <;> rfl
    · exact ih u h
def RetShips (l : List Ship) (w : World) (e : Ending) (w' : World) : Prop := ∃ A c, e = .returned (.slice A l.length c) /\ OwnK w' w.heap.size (.slice A l.length c) l /\ Below w.heap.size w w'
set_option maxRecDepth 100000 in
theorem cloneK_any (l : List Ship) (A : Option Addr) (c : Nat) (w : World) (h : Sl w 6 A l.length (shC l)) (hm : l.length <= 100000) :
    Calls Tryz.prog 32 #[.slice A l.length c] w (RetShips l w) := by
  obtain ⟨i0, hi0, hz0, hz1, hz2⟩ := info_parts ship_info
  have hnil := fun w' : World => Lib.run_eql_slice_nil (P := Tryz.prog) w' (t := 31)
  cases A with
  | none =>
    have hl : l.length = 0 := by
      rcases Nat.eq_zero_or_pos l.length with h0 | h0
      · exact h0
      · obtain ⟨b, off, e, _⟩ := h.2 (by omega); cases e
    obtain rfl : l = [] := List.eq_nil_of_length_eq_zero hl
    go_enter Tryz.func32, Tryz.ntmps32
    go_wp2_with fail
    go_ret
    exact ⟨none, 0, rfl, ⟨rfl, .inl ⟨rfl, rfl⟩⟩, Below.refl _ _⟩
  | some ad =>
    go_enter Tryz.func32, Tryz.ntmps32
    go_wp2_with (at_builtin; refine wpList_append_own _ rfl (.tmp 5) (.tmp 6) 31 rfl w.heap.size 61 i0 _ 6 48 Tryz.underlying31 hi0 hz0 hz1 hz2 rfl (by omega) (.slice (some ⟨w.heap.size, 0, none⟩) 0 0) 0 [] rfl (own_empty w _ _ _ (Nat.le_refl _)) ad l.length c (shC l) rfl ?c1 ?c2 (ship_one l) ?c3 ?c4 ?c5 ?_)
    case c1 => exact shipCells_len l
    case c2 =>
      intro j u hj
      have hpos : 0 < l.length * 6 := by
        have := (List.getElem?_eq_some_iff.1 hj).1
        rw [h.1] at this; omega
      obtain ⟨b, off, e, _⟩ := h.2 hpos
      injection e with e
      subst e
      exact (h.alloc _).news j u hj
    case c3 => unfold maxLen; omega
    case c4 => omega
    case c5 => simp
    intro v' w1 hown hgrow _
    obtain ⟨A, c', rfl⟩ := own_form hown
    go_wp2_with fail
    go_ret
    refine ⟨A, c', by simp, by unfold OwnK; simpa using hown, ((Below.refl _ _).alloc (Nat.le_refl _) _).grown hgrow (by simp) ?_⟩
    intro k hk; simp [Value.ownBlock] at hk; omega
theorem portT_under : ∃ fs, Tryz.prog.underlying 36 = some (.struct fs) := ⟨_, Tryz.underlying36⟩
theorem load_port_run {w : World} {g : Nat} {p : Port} {A : Option Addr} {c : Nat} (hf : PortAt w g p A c) : (loadVar 36 ⟨g, 0, none⟩).run Tryz.prog w = .ok (.agg (portA p A c)) w := by
  obtain ⟨fs, hu⟩ := portT_under
  exact run_loadVar_row (P := Tryz.prog) w g 36 36 (portA p A c) (0, 0) (.struct fs) hf hu rfl port_size
theorem results_port {fn : Func} {t : Tmp} (h : fn.results = #[.cell t 36]) (tmps : Array Value) (w : World) (g : Nat) {p : Port} {A : Option Addr} {c : Nat}
    (hp : tmps.getD t undef = .pointer (some ⟨g, 0, none⟩)) (hf : PortAt w g p A c) : (results fn tmps).run Tryz.prog w = .ok (.agg (portA p A c)) w := by
  simp only [results, h]
  simp [Sem.run_bind, Result.andThen]
  rw [show tmps[t]?.getD undef = tmps.getD t undef from by simp [Array.getD_eq_getD_getElem?], hp]
  simp [asAddr, load_port_run hf]
theorem rP3 {fn : Func} {t u v : Tmp} (h : fn.results = #[.cell t 36, .tmp u, .tmp v]) (tmps : Array Value) (w : World) (g : Nat) {p : Port} {A : Option Addr} {c : Nat}
    (hp : tmps.getD t undef = .pointer (some ⟨g, 0, none⟩)) (hf : PortAt w g p A c) : (results fn tmps).run Tryz.prog w = .ok (.tuple #[.agg (portA p A c), tmps.getD u undef, tmps.getD v undef]) w := by
  simp only [results, h]
  simp [Sem.run_bind, Result.andThen]
  rw [show tmps[t]?.getD undef = tmps.getD t undef from by simp [Array.getD_eq_getD_getElem?], hp]
  simp [asAddr, load_port_run hf]
theorem newPort_any (w : World) : Calls Tryz.prog 46 #[] w fun e w' => e = .returned (.agg (portA Port.zero none 0)) /\ Below w.heap.size w w' := by
  go_enter Tryz.func46, Tryz.ntmps46
  go_wp2_with fail
  refine bodyPost_ret (results_port rfl _ _ w.heap.size (p := Port.zero) (A := none) (c := 0) rfl (PortAt.new w Port.zero none 0)) rfl ?_
  exact ⟨rfl, (Below.refl _ _).alloc (Nat.le_refl _) _⟩
theorem own_one {w w' : World} {base size n g : Nat} {T : TypeId} {v : Value} {xs : List Value} (h : w.ownsRow base T size v n xs) (hr : OneRow g w w') (hg : g < base) : w'.ownsRow base T size v n xs := by
  refine ⟨h.1, ?_⟩
  rcases h.2 with hn | ⟨b, cap, cur, hv, hb, hh, rest⟩
  · exact .inl hn
  · exact .inr ⟨b, cap, cur, hv, hb, (hr.block b (by omega)).trans hh, rest⟩
theorem own_weak {w : World} {base base' size n : Nat} {T : TypeId} {v : Value} {xs : List Value} (h : w.ownsRow base T size v n xs) (hb : base' <= base) : w.ownsRow base' T size v n xs := by
  refine ⟨h.1, ?_⟩
  rcases h.2 with hn | ⟨b, cap, cur, hv, h1, rest⟩
  · exact .inl hn
  · exact .inr ⟨b, cap, cur, hv, by omega, rest⟩
section
variable {w w' : World} {g : Nat} {p : Port} {A : Option Addr} {c : Nat}
theorem PortAt.one {k : Nat} (h : PortAt w g p A c) (hr : OneRow k w w') (hk : g ≠ k) : PortAt w' g p A c := (hr.block g hk).trans h
theorem PortAt.beside (h : PortAt w g p A c) (a : Addr) (v : Value) (ha : a.block ≠ g) : PortAt (w.setCell a v) g p A c := (Below.heap_setCell w a v g (fun e => ha e.symm)).trans h
theorem PortAt.row (h : PortAt w g p A c) (q : Port) (B : Option Addr) (d : Nat) : PortAt (w.setRow g (portA q B d)) g q B d := setRow_heap w g _ _ _ _ h
theorem PortAt.put (h : PortAt w g p A c) (j : Nat) (v : Value) (q : Port) (B : Option Addr) (d : Nat) (e : (portA p A c).setIfInBounds j v = portA q B d) : PortAt (w.setCell ⟨g, j, none⟩ v) g q B d := by
  unfold PortAt
  rw [setCell_eq_setRow w g j _ _ _ _ h, e]
  exact setRow_heap w g _ _ _ _ h
end
section
variable {ops : Array Oper} {rest : List Oper} {o : Oper} {a : Act} {w : World} {Q : Exit -> Act -> World -> Prop}
theorem portA_one (p : Port) (A : Option Addr) (c : Nat) : (portA p A c).all (·.oneCell') = true := by
  simp [portA, Value.oneCell']
theorem wSP {x y : Operand} {g : Nat} {p q : Port} {A B : Option Addr} {c d : Nat} (hg : o.guard = none) (ho : o.op = .store 36 x y)
    (hx : a.eval x = .pointer (some ⟨g, 0, none⟩)) (hy : a.eval y = .agg (portA q B d)) (hf : PortAt w g p A c)
    (h : ∀ w', PortAt w' g q B d -> OneRow g w w' -> wpList Tryz.prog ops Q rest (a.put o.dst undef) w') : wpList Tryz.prog ops Q (o :: rest) a w :=
  have h := h _ (hf.row q B d) (OneRow.of_row w g _)
  wpList_store_row hg _ x y ho g _ hx hy _ _ hf port_size rfl (portA_one q B d) h
end
def RetOwnP (p : Port) (w : World) (e : Ending) (w' : World) : Prop :=
  ∃ A c, e = .returned (.agg (portA p A c)) /\ OwnK w' w.heap.size (.slice A p.ships.length c) p.ships /\ Below w.heap.size w w'
set_option maxRecDepth 100000 in
theorem ownP_any (p : Port) (A : Option Addr) (c : Nat) (w : World) (hin : InP w p A) (hm : p.ships.length <= 100000) :
    Calls Tryz.prog 54 #[.agg (portA p A c)] w (RetOwnP p w) := by
  simp only [portA]
  go_enter Tryz.func54, Tryz.ntmps54
  go_wp2_with fail
  have hP0 : PortAt ((w.alloc (.cells (portA p A c) 36)).alloc (.cells (portA Port.zero none 0) 36)) w.heap.size p A c := (PortAt.new w p A c).alloc _
  have hZ0 : PortAt ((w.alloc (.cells (portA p A c) 36)).alloc (.cells (portA Port.zero none 0) 36)) (w.heap.size + 1) Port.zero none 0 := by
    have := PortAt.new (w.alloc (.cells (portA p A c) 36)) Port.zero none 0
    simpa using this
  have hB0 : Below w.heap.size w ((w.alloc (.cells (portA p A c) 36)).alloc (.cells (portA Port.zero none 0) 36)) := ((Below.refl _ _).alloc (Nat.le_refl _) _).alloc (by simp) _
  refine (cloneK_any p.ships A c _ ((Sl.alloc hin _).alloc _) hm).mono ?_
  rintro e w2 ⟨A2, c2, rfl, ho2, hb2⟩
  have hP2 := PortAt.below hP0 hb2 (by simp <;> omega)
  have hZ2 := PortAt.below hZ0 hb2 (by simp <;> omega)
  have hB2 := bG_ hB0 hb2
  have hx1 := hP2.frozen 1
  have hx2 := hP2.ships
  have hP3 : PortAt (w2.setCell ⟨w.heap.size, 1, none⟩ (.slice A2 p.ships.length c2)) w.heap.size p A2 c2 := hP2.put 1 _ p A2 c2 rfl
  have hZ3 := hZ2.beside ⟨w.heap.size, 1, none⟩ (.slice A2 p.ships.length c2) (by simp)
  have hB3 := hB2.setCell (p := ⟨w.heap.size, 1, none⟩) (Nat.le_refl _) (.slice A2 p.ships.length c2)
  have ho3 := own_one ho2 (OneRow.of_cell w2 ⟨w.heap.size, 1, none⟩ (.slice A2 p.ships.length c2)) (by simp; omega)
  clear hP0 hZ0 hB0 hb2 hB2 hZ2
  go_wp2_with (first
    | (refine wLP rfl rfl (by first | rfl | simp [aE, aP]) hP3 ?_)
    | (refine wSP rfl rfl (by first | rfl | simp [aE, aP]) (by first | rfl | simp [aE, aP]) hZ3 ?_; intro w4 hZ4 hr4))
  refine bodyPost_ret (results_port rfl _ _ (w.heap.size + 1) rfl hZ4) rfl ?_
  exact ⟨A2, c2, rfl, own_weak (own_one ho3 hr4 (by simp)) (by simp; omega), hB3.trans (hr4.below (by omega))⟩
end Go.Proofs.YtifmdkcpbajdcabGreatDoor
namespace Go.Proofs.YtifmdkcpbajdcabGreatDoor
open Go.RowKit Go.Proofs Plain
open Go.Lib renaming hid -> hd_
def orA (o : Order) : Array Value := #[.int .i64 o.kind, .int .i64 o.a, .int .i64 o.b, .int .i64 o.c]
def RetTell (g base : Nat) (r : Port × Int × Int) (w : World) (e : Ending) (w' : World) : Prop :=
  ∃ A c, e = .returned (.tuple #[.int .i64 r.2.1, .int .i64 r.2.2]) /\ PortAt w' g r.1 A c /\ OwnK w' base (.slice A r.1.ships.length c) r.1.ships /\ (Value.slice A r.1.ships.length c).ownBlock ≠ some g /\ Below base w w'
theorem come_cells (l : List Ship) (s : Ship) : shC (l ++ [s]) = shC l ++ [.int .i64 s.state, .int .i64 s.wide, .int .i64 s.long, .int .i64 s.cls, .int .i64 s.since, .int .i64 s.queued] := by
  rw [shipCells_app]; simp [shC, shipV]
theorem own_one' {w w' : World} {base size n g : Nat} {T : TypeId} {v : Value} {xs : List Value} (h : w.ownsRow base T size v n xs) (hr : OneRow g w w') (hg : v.ownBlock ≠ some g) : w'.ownsRow base T size v n xs := by
  refine ⟨h.1, ?_⟩
  rcases h.2 with hn | ⟨b, cap, cur, hv, hb, hh, rest⟩
  · exact .inl hn
  · exact .inr ⟨b, cap, cur, hv, hb, (hr.block b (fun e => hg (by rw [hv, e]; rfl))).trans hh, rest⟩
def hideOp (o : Op) : Op := o
attribute [local go_sem] hideOp
set_option maxRecDepth 100000 in
theorem tell_come (p : Port) (A : Option Addr) (c g base : Nat) (oa ob oc : Int) (w : World) (hP : PortAt w g p A c) (hown : OwnK w base (.slice A p.ships.length c) p.ships) (hog : (Value.slice A p.ships.length c).ownBlock ≠ some g) (hgb : base <= g) (hbs : base <= w.heap.size)
    (hx : 0 <= p.next /\ p.next < 1048576) (hl : p.ships.length < 14) (ha : inB oa 1 16 = true) (hb : inB ob 1 300 = true) (hc : inB oc 0 3 = true) :
    Calls Tryz.prog 55 #[.pointer (some ⟨g, 0, none⟩), .agg (orA ⟨1, oa, ob, oc⟩)] w (RetTell g base (p.come ⟨1, oa, ob, oc, 0, p.next⟩, p.ships.length, 0) w) := by
  obtain ⟨i0, hi0, hz0, hz1, hz2⟩ := info_parts ship_info
  have HA := hd_ ha
  have HB := hd_ hb
  have HC := hd_ hc
  have q0 := hP.now
  have q1 := hP.ships
  have q15 := hP.next
  have f1 := hP.frozen 1
  have f15 := hP.frozen 15
  have hglt := hP.lt
  obtain ⟨x0, x1⟩ := hx
  clear ha hb hc
  have d1 : decide (14 <= (p.ships.length : Int)) = false := by simp; omega
  have d2 : decide (1048576 <= p.next) = false := by simp; omega
  simp only [orA]
  go_enter Tryz.func55, Tryz.ntmps55
  go_wp2_with (first
    | (go_at_call 82; (with_reducible refine (psI _ HA.out).mono ?_); rintro e w' ⟨rfl, rfl⟩)
    | (go_at_call 82; (with_reducible refine (psI _ HB.out).mono ?_); rintro e w' ⟨rfl, rfl⟩)
    | (go_at_call 82; (with_reducible refine (psI _ HC.out).mono ?_); rintro e w' ⟨rfl, rfl⟩))
  have hwb : Below w.heap.size w (w.alloc (.cells #[.int .i64 1, .int .i64 oa, .int .i64 ob, .int .i64 oc] 41)) := (Below.refl _ _).alloc (Nat.le_refl _) _
  have ho1 : OwnK (w.alloc (.cells #[.int .i64 1, .int .i64 oa, .int .i64 ob, .int .i64 oc] 41)) base (.slice A p.ships.length c) p.ships := World.ownsRow.alloc hown _
  have hP1 := hP.alloc (.cells #[.int .i64 1, .int .i64 oa, .int .i64 ob, .int .i64 oc] 41)
  have hc1 : ∀ i, i < 4 -> (w.alloc (.cells #[.int .i64 1, .int .i64 oa, .int .i64 ob, .int .i64 oc] 41)).cell? ⟨w.heap.size, i, none⟩ = (#[.int .i64 1, .int .i64 oa, .int .i64 ob, .int .i64 oc] : Array Value)[i]? := fun i hi => cell_of_row _ w.heap.size i _ _ _ (heap_alloc_new w _)
  have hz1' : (w.alloc (.cells #[.int .i64 1, .int .i64 oa, .int .i64 ob, .int .i64 oc] 41)).heap.size = w.heap.size + 1 := by simp
  have hob : (Value.slice A p.ships.length c).ownBlock ≠ some w.heap.size := fun e => by
    rcases hown.2 with ⟨hv, _⟩ | ⟨gg, cap, cur, hv, _, hh, _⟩
    · rw [hv] at e; cases e
    · rw [hv] at e; simp only [Value.ownBlock, Option.some.injEq] at e
      have := (Array.getElem?_eq_some_iff.1 hh).1
      omega
  generalize w.alloc (.cells #[.int .i64 1, .int .i64 oa, .int .i64 ob, .int .i64 oc] 41) = wr at *
  have k1 : wr.cell? ⟨w.heap.size, 1, none⟩ = some (.int .i64 oa) := hc1 1 (by omega)
  have k2 : wr.cell? ⟨w.heap.size, 2, none⟩ = some (.int .i64 ob) := hc1 2 (by omega)
  have k3 : wr.cell? ⟨w.heap.size, 3, none⟩ = some (.int .i64 oc) := hc1 3 (by omega)
  have q1' := hP1.ships
  have q15' := hP1.next
  have f1' := hP1.frozen 1
  have hne : w.heap.size ≠ g := by omega
  have hne' : g ≠ w.heap.size := by omega
  have hl1 : p.ships.length + 1 <= maxLen := by unfold maxLen; omega
  have hl2 : (p.ships.length + 1) * 48 <= 140737488355328 := by omega
  have hlt1 : w.heap.size < wr.heap.size := by omega
  have hlt2 : g < wr.heap.size := by omega
  have hlt3 : base <= wr.heap.size + 1 := by omega
  have HWB := hd_ hwb
  have hst : ∀ (w1 : World) (v : Value), w1.cell? ⟨g, 15, none⟩ = some (.int .i64 p.next) -> (w1.setCell ⟨g, 1, none⟩ v).cell? ⟨g, 15, none⟩ = some (.int .i64 p.next) := fun w1 v h => by rw [World.cell?_setCell_other (h := (by simp : (⟨g, 1, none⟩ : Addr) ≠ ⟨g, 15, none⟩)) ..]; exact h
  have r1' : ∀ o : Obj, (wr.alloc o).drew.cell? ⟨g, 1, none⟩ = some (.slice A p.ships.length c) := fun o => (hP1.alloc o).ships
  have r2' : ∀ o : Obj, (wr.alloc o).drew.frozen? ⟨g, 1, none⟩ = false := fun o => (hP1.alloc o).frozen 1
  clear hc1 q0 q1 q15 f1 f15 hP hown hwb hz1'
  rw [show Op.load 31 (Operand.tmp 50) = hideOp (Op.load 31 (Operand.tmp 50)) from rfl]
  go_region_held3 (fun w' => w'.cell? ⟨w.heap.size, 1, none⟩ = some (.int .i64 oa) /\ w'.cell? ⟨w.heap.size, 2, none⟩ = some (.int .i64 ob) /\ w'.cell? ⟨w.heap.size, 3, none⟩ = some (.int .i64 oc) /\ w'.cell? ⟨g, 15, none⟩ = some (.int .i64 p.next))
    (first
      | go_keep
      | (go_split_ands
         refine ⟨?_, ?_, ?_, ?_⟩
         · (rw [hgrow.cell_far _ (by simp; omega) (Ne.symm hob)]; assumption)
         · (rw [hgrow.cell_far _ (by simp; omega) (Ne.symm hob)]; assumption)
         · (rw [hgrow.cell_far _ (by simp; omega) (Ne.symm hob)]; assumption)
         · (rw [hgrow.cell_far _ (by simp; omega) (Ne.symm hog)]; assumption))
      | (go_split_ands; refine ⟨?_, ?_, ?_, hst _ _ ?_⟩ <;> first | assumption | go_keep))
    ((refine step_append_lies _ (by rfl) _ _ _ (by rfl) base 61 i0 _ 6 48 Tryz.underlying31 hi0 hz0 hz1 hz2 rfl (by omega) (.slice A p.ships.length c) p.ships.length (shC p.ships) (by rfl) ((ho1.alloc _).drew)
        ⟨wr.heap.size, 0, none⟩ 1 1 [.int .i64 1, .int .i64 oa, .int .i64 ob, .int .i64 oc, .int .i64 0, .int .i64 p.next] (by rfl) (by rfl) (World.news_of_block (cs := #[.int .i64 1, .int .i64 oa, .int .i64 ob, .int .i64 oc, .int .i64 0, .int .i64 p.next]) (t := 61) (fr := (0, 0)) (heap_alloc_new wr _)) (by simp [Value.oneCell'])
        (by omega) hl1 hl2 (by simp; omega) (wr.heap.size + 1) (by simp) ?_; intro gg cap w1 hown1 hgrow hat hlt; have r1 := (hgrow.cell_far ⟨g, 1, none⟩ (by simp; omega) (Ne.symm hog)).trans (r1' _); have r2 := (hgrow.frozen_far ⟨g, 1, none⟩ (by simp; omega) (Ne.symm hog)).trans (r2' _)))
  all_goals
    have hP2 : PortAt w1 g p A c := (hgrow.block g (by simp; omega) (Ne.symm hog)).trans (hP1.alloc _)
    have hP3 := hP2.put 1 (.slice (some ⟨gg, 0, none⟩) (p.ships.length + 1) cap) { p with ships := p.ships ++ [⟨1, oa, ob, oc, 0, p.next⟩] } (some ⟨gg, 0, none⟩) cap (by simp [portA, Port.keep])
    have hown2 : OwnK w1 base (.slice (some ⟨gg, 0, none⟩) (p.ships.length + 1) cap) (p.ships ++ [⟨1, oa, ob, oc, 0, p.next⟩]) := by
      unfold OwnK; rw [come_cells, List.length_append]; exact hown1
    have hgg : (Value.slice (some ⟨gg, 0, none⟩) (p.ships.length + 1) cap).ownBlock ≠ some g := fun e => by
      simp only [Value.ownBlock, Option.some.injEq] at e
      rcases hat with h | h
      · exact hog (by rw [h, e])
      · omega
    have hown3 := own_one' hown2 (OneRow.of_cell w1 ⟨g, 1, none⟩ (.slice (some ⟨gg, 0, none⟩) (p.ships.length + 1) cap)) hgg
    have hb2 : Below base w w1 := ((HWB.out.mono hbs).alloc (by omega) _).drew.grown hgrow (by simp; omega) (fun k hk => oBk ho1 k hk)
    have hb3 := hb2.setCell (p := ⟨g, 1, none⟩) hgb (.slice (some ⟨gg, 0, none⟩) (p.ships.length + 1) cap)
    have q15 := hP3.next
    have f15 := hP2.frozen 15
    have f15b := hP3.frozen 15
    have f1b := hP2.frozen 1
    have hP4 := hP3.put 15 (.int .i64 (p.next + 1)) (p.come ⟨1, oa, ob, oc, 0, p.next⟩) (some ⟨gg, 0, none⟩) cap (by simp [portA, Port.keep, Port.come])
    have hown4 := own_one' hown3 (OneRow.of_cell _ ⟨g, 15, none⟩ (.int .i64 (p.next + 1))) hgg
    have hb4 := hb3.setCell (p := ⟨g, 15, none⟩) hgb (.int .i64 (p.next + 1))
    have HP4 := hd_ hP4
    have HO4 := hd_ hown4
    have HB4 := hd_ hb4
    have HGG := hd_ hgg
    clear hP3 hown3 hb3 hP4 hown4 hb4 hP2 hown2 hb2
    go_wp2_with fail
    go_ret2
    refine ⟨some ⟨gg, 0, none⟩, cap, rfl, HP4.out, ?_, HGG.out, HB4.out⟩
    have := HO4.out
    unfold OwnK
    simpa [Port.come] using this
end Go.Proofs.YtifmdkcpbajdcabGreatDoor
namespace Go.Proofs.YtifmdkcpbajdcabGreatDoor
open Go.RowKit Go.Proofs Plain
open Go.Lib renaming hid -> hd_
set_option maxRecDepth 100000 in
theorem tell_come_any (p : Port) (A : Option Addr) (c g base : Nat) (oa ob oc : Int) (w : World) (hP : PortAt w g p A c) (hown : OwnK w base (.slice A p.ships.length c) p.ships) (hog : (Value.slice A p.ships.length c).ownBlock ≠ some g) (hgb : base <= g) (hbs : base <= w.heap.size)
    (hf : Plain.Fair p) :
    Calls Tryz.prog 55 #[.pointer (some ⟨g, 0, none⟩), .agg (orA ⟨1, oa, ob, oc⟩)] w (RetTell g base (tell1 p ⟨1, oa, ob, oc⟩) w) := by
  have HT := hd_ (show tell1 p ⟨1, oa, ob, oc⟩ = if (1 <= oa /\ oa <= 16) /\ (1 <= ob /\ ob <= 300) /\ (0 <= oc /\ oc <= 3) then
      (if 14 <= p.ships.length \/ 1048576 <= p.next then (p, 0, 5) else (p.come ⟨1, oa, ob, oc, 0, p.next⟩, (p.ships.length : Int), 0)) else (p, 0, 2) from rfl)
  have hx := hf.next
  have hP2 := hP.alloc (.cells (orA ⟨1, oa, ob, oc⟩) 41)
  have ho2 : OwnK (w.alloc (.cells (orA ⟨1, oa, ob, oc⟩) 41)) base (.slice A p.ships.length c) p.ships := World.ownsRow.alloc hown _
  have hb2 : Below base w (w.alloc (.cells (orA ⟨1, oa, ob, oc⟩) 41)) := ((Below.refl _ _).alloc (Nat.le_refl _) _).mono hbs
  have q1 := hP.ships
  have q15 := hP.next
  have hglt := hP.lt
  by_cases ha : inB oa 1 16 = true
  · by_cases hb : inB ob 1 300 = true
    · by_cases hc : inB oc 0 3 = true
      · have ha' := (inB_iff _ _ _).1 ha
        have hb' := (inB_iff _ _ _).1 hb
        have hc' := (inB_iff _ _ _).1 hc
        by_cases hl : 14 <= p.ships.length
        · have HR := hd_ (show tell1 p ⟨1, oa, ob, oc⟩ = (p, 0, 5) by rw [HT.out, if_pos ⟨ha', hb', hc'⟩, if_pos (.inl hl)])
          have HA := hd_ ha
          have HB := hd_ hb
          have HC := hd_ hc
          have d1 : decide (14 <= (p.ships.length : Int)) = true := by simp; omega
          clear HT ha hb hc ha' hb' hc' hP hown
          simp only [orA] at *
          go_enter Tryz.func55, Tryz.ntmps55
          go_wp2_with (first
            | (go_at_call 82; (with_reducible refine (psI _ HA.out).mono ?_); rintro e w' ⟨rfl, rfl⟩)
            | (go_at_call 82; (with_reducible refine (psI _ HB.out).mono ?_); rintro e w' ⟨rfl, rfl⟩)
            | (go_at_call 82; (with_reducible refine (psI _ HC.out).mono ?_); rintro e w' ⟨rfl, rfl⟩))
          go_ret2
          rw [HR.out]
          exact ⟨A, c, rfl, hP2, ho2, hog, hb2⟩
        · by_cases hn : 1048576 <= p.next
          · have HR := hd_ (show tell1 p ⟨1, oa, ob, oc⟩ = (p, 0, 5) by rw [HT.out, if_pos ⟨ha', hb', hc'⟩, if_pos (.inr hn)])
            have HA := hd_ ha
            have HB := hd_ hb
            have HC := hd_ hc
            have d1 : decide (14 <= (p.ships.length : Int)) = false := by simp; omega
            have d2 : decide (1048576 <= p.next) = true := by simpa using hn
            clear HT ha hb hc ha' hb' hc' hP hown
            simp only [orA] at *
            go_enter Tryz.func55, Tryz.ntmps55
            go_wp2_with (first
              | (go_at_call 82; (with_reducible refine (psI _ HA.out).mono ?_); rintro e w' ⟨rfl, rfl⟩)
              | (go_at_call 82; (with_reducible refine (psI _ HB.out).mono ?_); rintro e w' ⟨rfl, rfl⟩)
              | (go_at_call 82; (with_reducible refine (psI _ HC.out).mono ?_); rintro e w' ⟨rfl, rfl⟩))
            go_ret2
            rw [HR.out]
            exact ⟨A, c, rfl, hP2, ho2, hog, hb2⟩
          · rw [HT.out, if_pos ⟨ha', hb', hc'⟩, if_neg (by omega)]
            exact tell_come p A c g base oa ob oc w hP hown hog hgb hbs ⟨hx.1, by omega⟩ (by omega) ha hb hc
      · have hc : inB oc 0 3 = false := by simpa using hc
        have hc' : ¬ (0 <= oc /\ oc <= 3) := by rw [<- inB_iff, hc]; simp
        have HR := hd_ (show tell1 p ⟨1, oa, ob, oc⟩ = (p, 0, 2) by rw [HT.out, if_neg (fun h => hc' h.2.2)])
        have HA := hd_ ha
        have HB := hd_ hb
        have HC := hd_ hc
        clear HT ha hb hc hc' hP hown
        simp only [orA] at *
        go_enter Tryz.func55, Tryz.ntmps55
        go_wp2_with (first
          | (go_at_call 82; (with_reducible refine (psI _ HA.out).mono ?_); rintro e w' ⟨rfl, rfl⟩)
          | (go_at_call 82; (with_reducible refine (psI _ HB.out).mono ?_); rintro e w' ⟨rfl, rfl⟩)
          | (go_at_call 82; (with_reducible refine (psI _ HC.out).mono ?_); rintro e w' ⟨rfl, rfl⟩))
        go_ret2
        rw [HR.out]
        exact ⟨A, c, rfl, hP2, ho2, hog, hb2⟩
    · have hb : inB ob 1 300 = false := by simpa using hb
      have hb' : ¬ (1 <= ob /\ ob <= 300) := by rw [<- inB_iff, hb]; simp
      have HR := hd_ (show tell1 p ⟨1, oa, ob, oc⟩ = (p, 0, 2) by rw [HT.out, if_neg (fun h => hb' h.2.1)])
      have HA := hd_ ha
      have HB := hd_ hb
      clear HT ha hb hb' hP hown
      simp only [orA] at *
      go_enter Tryz.func55, Tryz.ntmps55
      go_wp2_with (first
        | (go_at_call 82; (with_reducible refine (psI _ HA.out).mono ?_); rintro e w' ⟨rfl, rfl⟩)
        | (go_at_call 82; (with_reducible refine (psI _ HB.out).mono ?_); rintro e w' ⟨rfl, rfl⟩))
      go_ret2
      rw [HR.out]
      exact ⟨A, c, rfl, hP2, ho2, hog, hb2⟩
  · have ha : inB oa 1 16 = false := by simpa using ha
    have ha' : ¬ (1 <= oa /\ oa <= 16) := by rw [<- inB_iff, ha]; simp
    have HR := hd_ (show tell1 p ⟨1, oa, ob, oc⟩ = (p, 0, 2) by rw [HT.out, if_neg (fun h => ha' h.1)])
    have HA := hd_ ha
    clear HT ha ha' hP hown
    simp only [orA] at *
    go_enter Tryz.func55, Tryz.ntmps55
    go_wp2_with (go_at_call 82; (with_reducible refine (psI _ HA.out).mono ?_); rintro e w' ⟨rfl, rfl⟩)
    go_ret2
    rw [HR.out]
    exact ⟨A, c, rfl, hP2, ho2, hog, hb2⟩
end Go.Proofs.YtifmdkcpbajdcabGreatDoor
