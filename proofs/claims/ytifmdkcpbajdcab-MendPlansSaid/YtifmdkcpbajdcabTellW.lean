/- Walks: a new port; a port with ships of its own. -/
import Derived.Test.YtifmdkcpbajdcabRanked
import Derived.Laws.Tables
import Derived.BigRegion
namespace Go.Proofs.Ytifmdkcpbajdcab
open Go.RowKit Go.Proofs Plain

def OwnK (w : World) (base : Nat) (v : Value) (l : List Ship) : Prop := w.ownsRow base 38 6 v l.length (shipCells l)

theorem ship_info : (Try.prog.info? 38).map (fun i => (i.zero, i.size, i.bytes)) = some (some (.agg #[.int .i64 0, .int .i64 0, .int .i64 0, .int .i64 0, .int .i64 0, .int .i64 0]), 6, 48) := by kernel_rfl

theorem ship_one (l : List Ship) : ∀ u ∈ shipCells l, u.oneCell' = true := by
  induction l with
  | nil => intro u h; simp [shipCells] at h
  | cons s r ih =>
    intro u h
    simp only [shipCells, List.mem_append] at h
    rcases h with h | h
    · simp only [shipV, List.mem_cons, List.not_mem_nil, or_false] at h
      rcases h with rfl | rfl | rfl | rfl | rfl | rfl <;> rfl
    · exact ih u h

/-- Ships of one's own that are handed back. -/
def RetShips (l : List Ship) (w : World) (e : Ending) (w' : World) : Prop := ∃ A c, e = .returned (.slice A l.length c) ∧ OwnK w' w.heap.size (.slice A l.length c) l ∧ Below w.heap.size w w'

set_option maxRecDepth 100000 in
set_option maxHeartbeats 1000000 in
theorem cloneK_any (l : List Ship) (A : Option Addr) (c : Nat) (w : World) (h : Sl w 6 A l.length (shipCells l)) (hm : l.length ≤ 100000) :
    Calls Try.prog 58 #[.slice A l.length c] w (RetShips l w) := by
  obtain ⟨i0, hi0, hz0, hz1, hz2⟩ := info_parts ship_info
  have hnil := fun w' : World => Lib.run_eql_slice_nil (P := Try.prog) w' (t := 22)
  cases A with
  | none =>
    have hl : l.length = 0 := by
      rcases Nat.eq_zero_or_pos l.length with h0 | h0
      · exact h0
      · obtain ⟨b, off, e, _⟩ := h.2 (by omega); cases e
    obtain rfl : l = [] := List.eq_nil_of_length_eq_zero hl
    go_enter Try.func58, Try.ntmps58
    go_wp2_with fail
    go_ret
    exact ⟨none, 0, rfl, ⟨rfl, .inl ⟨rfl, rfl⟩⟩, Below.refl _ _⟩
  | some ad =>
    go_enter Try.func58, Try.ntmps58
    go_wp2_with (at_builtin; refine wpList_append_own _ rfl (.tmp 5) (.tmp 6) 22 rfl w.heap.size 38 i0 _ 6 48 Try.underlying22 hi0 hz0 hz1 hz2 rfl (by omega) (.slice (some ⟨w.heap.size, 0, none⟩) 0 0) 0 [] rfl (own_empty w _ _ _ (Nat.le_refl _)) ad l.length c (shipCells l) rfl ?c1 ?c2 (ship_one l) ?c3 ?c4 ?c5 ?_)
    case c1 => exact shipCells_len l
    case c2 =>
      intro j u hj
      have hpos : 0 < l.length * 6 := by
        have := (List.getElem?_eq_some_iff.1 hj).1
        rw [h.1] at this; omega
      obtain ⟨b, off, e, _⟩ := h.2 hpos
      injection e with e
      subst e
      exact (h.alloc _).news j u hj
    case c3 => unfold maxLen; omega
    case c4 => omega
    case c5 => simp
    intro v' w1 hown hgrow _
    obtain ⟨A, c', rfl⟩ := own_form hown
    go_wp2_with fail
    go_ret
    refine ⟨A, c', by simp, by unfold OwnK; simpa using hown, ((Below.refl _ _).alloc (Nat.le_refl _) _).grown hgrow (by simp) ?_⟩
    intro k hk; simp [Value.ownBlock] at hk; omega

theorem portT_under : ∃ fs, Try.prog.underlying 27 = some (.struct fs) := ⟨_, Try.underlying27⟩

theorem load_port_run {w : World} {g : Nat} {p : Port} {A : Option Addr} {c : Nat} (hf : PortAt w g p A c) : (loadVar 27 ⟨g, 0, none⟩).run Try.prog w = .ok (.agg (portA p A c)) w := by
  obtain ⟨fs, hu⟩ := portT_under
  exact run_loadVar_row (P := Try.prog) w g 27 27 (portA p A c) (0, 0) (.struct fs) hf hu rfl port_size

theorem results_port {fn : Func} {t : Tmp} (h : fn.results = #[.cell t 27]) (tmps : Array Value) (w : World) (g : Nat) {p : Port} {A : Option Addr} {c : Nat}
    (hp : tmps.getD t undef = .pointer (some ⟨g, 0, none⟩)) (hf : PortAt w g p A c) : (results fn tmps).run Try.prog w = .ok (.agg (portA p A c)) w := by
  simp only [results, h]
  simp [Sem.run_bind, Result.andThen]
  rw [show tmps[t]?.getD undef = tmps.getD t undef from by simp [Array.getD_eq_getD_getElem?], hp]
  simp [asAddr, load_port_run hf]

theorem results_port3 {fn : Func} {t u v : Tmp} (h : fn.results = #[.cell t 27, .tmp u, .tmp v]) (tmps : Array Value) (w : World) (g : Nat) {p : Port} {A : Option Addr} {c : Nat}
    (hp : tmps.getD t undef = .pointer (some ⟨g, 0, none⟩)) (hf : PortAt w g p A c) : (results fn tmps).run Try.prog w = .ok (.tuple #[.agg (portA p A c), tmps.getD u undef, tmps.getD v undef]) w := by
  simp only [results, h]
  simp [Sem.run_bind, Result.andThen]
  rw [show tmps[t]?.getD undef = tmps.getD t undef from by simp [Array.getD_eq_getD_getElem?], hp]
  simp [asAddr, load_port_run hf]

theorem newPort_any (w : World) : Calls Try.prog 30 #[] w fun e w' => e = .returned (.agg (portA Port.zero none 0)) ∧ Below w.heap.size w w' := by
  go_enter Try.func30, Try.ntmps30
  go_wp2_with fail
  refine bodyPost_ret (results_port rfl _ _ w.heap.size (p := Port.zero) (A := none) (c := 0) rfl (PortAt.new w Port.zero none 0)) rfl ?_
  exact ⟨rfl, (Below.refl _ _).alloc (Nat.le_refl _) _⟩

theorem own_one {w w' : World} {base size n g : Nat} {T : TypeId} {v : Value} {xs : List Value} (h : w.ownsRow base T size v n xs) (hr : OneRow g w w') (hg : g < base) : w'.ownsRow base T size v n xs := by
  refine ⟨h.1, ?_⟩
  rcases h.2 with hn | ⟨b, cap, cur, hv, hb, hh, rest⟩
  · exact .inl hn
  · exact .inr ⟨b, cap, cur, hv, hb, (hr.block b (by omega)).trans hh, rest⟩
theorem own_weak {w : World} {base base' size n : Nat} {T : TypeId} {v : Value} {xs : List Value} (h : w.ownsRow base T size v n xs) (hb : base' ≤ base) : w.ownsRow base' T size v n xs := by
  refine ⟨h.1, ?_⟩
  rcases h.2 with hn | ⟨b, cap, cur, hv, h1, rest⟩
  · exact .inl hn
  · exact .inr ⟨b, cap, cur, hv, by omega, rest⟩

section
variable {w w' : World} {g : Nat} {p : Port} {A : Option Addr} {c : Nat}
theorem PortAt.one {k : Nat} (h : PortAt w g p A c) (hr : OneRow k w w') (hk : g ≠ k) : PortAt w' g p A c := (hr.block g hk).trans h
theorem PortAt.beside (h : PortAt w g p A c) (a : Addr) (v : Value) (ha : a.block ≠ g) : PortAt (w.setCell a v) g p A c := (Below.heap_setCell w a v g (fun e => ha e.symm)).trans h
theorem PortAt.row (h : PortAt w g p A c) (q : Port) (B : Option Addr) (d : Nat) : PortAt (w.setRow g (portA q B d)) g q B d := setRow_heap w g _ _ _ _ h
/-- One cell is another one. -/
theorem PortAt.put (h : PortAt w g p A c) (j : Nat) (v : Value) (q : Port) (B : Option Addr) (d : Nat) (e : (portA p A c).setIfInBounds j v = portA q B d) : PortAt (w.setCell ⟨g, j, none⟩ v) g q B d := by
  unfold PortAt
  rw [setCell_eq_setRow w g j _ _ _ _ h, e]
  exact setRow_heap w g _ _ _ _ h
end

section
variable {ops : Array Oper} {rest : List Oper} {o : Oper} {a : Act} {w : World} {Q : Exit → Act → World → Prop}
theorem portA_one (p : Port) (A : Option Addr) (c : Nat) : (portA p A c).all (·.oneCell') = true := by
  simp [portA, Value.oneCell']
theorem wpList_store_port {x y : Operand} {g : Nat} {p q : Port} {A B : Option Addr} {c d : Nat} (hg : o.guard = none) (ho : o.op = .store 27 x y)
    (hx : a.eval x = .pointer (some ⟨g, 0, none⟩)) (hy : a.eval y = .agg (portA q B d)) (hf : PortAt w g p A c)
    (h : ∀ w', PortAt w' g q B d → OneRow g w w' → wpList Try.prog ops Q rest (a.put o.dst undef) w') : wpList Try.prog ops Q (o :: rest) a w :=
  have h := h _ (hf.row q B d) (OneRow.of_row w g _)
  wpList_store_row hg _ x y ho g _ hx hy _ _ hf port_size rfl (portA_one q B d) h
end

/-- A port that is handed back, its ships one's own. -/
def RetOwnP (p : Port) (w : World) (e : Ending) (w' : World) : Prop :=
  ∃ A c, e = .returned (.agg (portA p A c)) ∧ OwnK w' w.heap.size (.slice A p.ships.length c) p.ships ∧ Below w.heap.size w w'

set_option maxRecDepth 100000 in
set_option maxHeartbeats 4000000 in
theorem ownP_any (p : Port) (A : Option Addr) (c : Nat) (w : World) (hin : InP w p A) (hm : p.ships.length ≤ 100000) :
    Calls Try.prog 34 #[.agg (portA p A c)] w (RetOwnP p w) := by
  simp only [portA]
  go_enter Try.func34, Try.ntmps34
  go_wp2_with fail
  have hP0 : PortAt ((w.alloc (.cells (portA p A c) 27)).alloc (.cells (portA Port.zero none 0) 27)) w.heap.size p A c := (PortAt.new w p A c).alloc _
  have hZ0 : PortAt ((w.alloc (.cells (portA p A c) 27)).alloc (.cells (portA Port.zero none 0) 27)) (w.heap.size + 1) Port.zero none 0 := by
    have := PortAt.new (w.alloc (.cells (portA p A c) 27)) Port.zero none 0
    simpa using this
  have hB0 : Below w.heap.size w ((w.alloc (.cells (portA p A c) 27)).alloc (.cells (portA Port.zero none 0) 27)) := ((Below.refl _ _).alloc (Nat.le_refl _) _).alloc (by simp) _
  refine (cloneK_any p.ships A c _ ((Sl.alloc hin _).alloc _) hm).mono ?_
  rintro e w2 ⟨A2, c2, rfl, ho2, hb2⟩
  have hP2 := PortAt.below hP0 hb2 (by simp <;> omega)
  have hZ2 := PortAt.below hZ0 hb2 (by simp <;> omega)
  have hB2 := below_go hB0 hb2
  have hx1 := hP2.frozen 1
  have hx2 := hP2.ships
  have hP3 : PortAt (w2.setCell ⟨w.heap.size, 1, none⟩ (.slice A2 p.ships.length c2)) w.heap.size p A2 c2 := hP2.put 1 _ p A2 c2 rfl
  have hZ3 := hZ2.beside ⟨w.heap.size, 1, none⟩ (.slice A2 p.ships.length c2) (by simp)
  have hB3 := hB2.setCell (p := ⟨w.heap.size, 1, none⟩) (Nat.le_refl _) (.slice A2 p.ships.length c2)
  have ho3 := own_one ho2 (OneRow.of_cell w2 ⟨w.heap.size, 1, none⟩ (.slice A2 p.ships.length c2)) (by simp; omega)
  clear hP0 hZ0 hB0 hb2 hB2 hZ2
  go_wp2_with (first
    | (refine wpList_load_port rfl rfl (by first | rfl | simp [Act.eval, Act.put]) hP3 ?_)
    | (refine wpList_store_port rfl rfl (by first | rfl | simp [Act.eval, Act.put]) (by first | rfl | simp [Act.eval, Act.put]) hZ3 ?_; intro w4 hZ4 hr4))
  refine bodyPost_ret (results_port rfl _ _ (w.heap.size + 1) rfl hZ4) rfl ?_
  exact ⟨A2, c2, rfl, own_weak (own_one ho3 hr4 (by simp)) (by simp; omega), hB3.trans (hr4.below (by omega))⟩
end Go.Proofs.Ytifmdkcpbajdcab
