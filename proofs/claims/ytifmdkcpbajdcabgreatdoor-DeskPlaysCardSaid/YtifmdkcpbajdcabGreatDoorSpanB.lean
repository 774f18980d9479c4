/- Laws of no program: copy over elements of several cells, onto a row of one's own. -/
import Derived.Test.YtifmdkcpbajdcabGreatDoorWords
import Derived.Shelf.Spec.SlicesInsertGrow
import Derived.Laws.CopyOwn
import Derived.Test.YtifmdkcpbajdcabGreatDoorSpanA
import Derived.Deep.RegionLaw
import Derived.Deep.RegionWith
import Derived.Deep.RegionHeld3
set_option linter.unusedVariables false
set_option linter.unusedSimpArgs false
set_option maxHeartbeats 8000000
namespace Go.Proofs.YtifmdkcpbajdcabGreatDoor
open Go.RowKit Go.Proofs
section
variable {P : Program}
theorem run_copy_cellsK (w : World) (dT sT ty elem : TypeId) (k g o dLen dCap : Nat) (a : Addr) (sLen sCap : Nat) (cur : Array Value) (t : TypeId) (cs : List Value)
    (hu : P.underlying dT = some (.slice elem)) (hs : (P.info? elem).map (·.size) = some k)
    (hg : w.heap[g]? = some (.cells cur t (0, 0))) (hn : cs.length = Nat.min sLen dLen * k)
    (hsrc : ∀ j v, cs[j]? = some v -> w.cell? (a.add j) = some v) (hfit : o + cs.length <= cur.size) (h1 : ∀ v ∈ cs, v.oneCell' = true) :
    (Builtin.copy_ #[dT, sT] ty #[.slice (some ⟨g, o, none⟩) dLen dCap, .slice (some a) sLen sCap]).run P w =
      .ok (goInt (Nat.min sLen dLen)) (w.setRow g (splice cur.toList o cs).toArray) := by
  have hl := run_loadCells_list (P := P) w a cs hsrc
  have hst := run_storeCells_at P g o t cs 0 cur w hg (by simpa using hfit) h1
  rw [hn] at hl
  cases hq : P.info? elem with
  | none => simp [hq] at hs
  | some i =>
    have hi : i.size = k := by simpa [hq] using hs
    simp [Builtin.copy_, run_underlying hu, Builtin.lenOf, Builtin.firstCells, sizeOf, typeInfo, hq, hi, hl, hst, splice]
theorem setRow_is {w : World} {g : Nat} {cur : Array Value} {t : TypeId} (hg : w.heap[g]? = some (.cells cur t (0, 0))) (cs : Array Value) : (w.setRow g cs).heap[g]? = some (.cells cs t (0, 0)) :=
  setRow_heap w g cur cs t _ hg
theorem cell_in {w : World} {g : Nat} {cur : Array Value} {t : TypeId} (hg : w.heap[g]? = some (.cells cur t (0, 0))) (o : Nat) : w.cell? ⟨g, o, none⟩ = cur[o]? := cell_of_row w g o cur t (0, 0) hg
theorem add_at (g o j : Nat) : (⟨g, o, none⟩ : Addr).add j = ⟨g, o + j, none⟩ := by unfold Addr.add; split <;> simp_all
theorem splice_ins (cur L two : List Value) (i n : Nat) (hL : cur.take (n * 2) = L) (hn : (n + 1) * 2 <= cur.length) (hi : i < n) (h2 : two.length = 2) :
    (splice (splice cur ((i + 1) * 2) (L.drop (i * 2))) (i * 2) two).length = cur.length /\
    (splice (splice cur ((i + 1) * 2) (L.drop (i * 2))) (i * 2) two).take ((n + 1) * 2) = L.take (i * 2) ++ two ++ L.drop (i * 2) := by
  have hLl : L.length = n * 2 := by rw [<- hL, List.length_take]; omega
  have hX : (L.drop (i * 2)).length = n * 2 - i * 2 := by rw [List.length_drop, hLl]
  have hf : splice cur ((i + 1) * 2) (L.drop (i * 2)) = cur.take ((i + 1) * 2) ++ (L.drop (i * 2) ++ cur.drop ((n + 1) * 2)) := by
    unfold splice; rw [hX]; congr 3; omega
  have hl1 : (splice cur ((i + 1) * 2) (L.drop (i * 2))).length = cur.length := length_splice _ _ _ (by rw [hX]; omega)
  refine ⟨by rw [length_splice _ _ _ (by rw [hl1, h2]; omega), hl1], ?_⟩
  have ht : (splice cur ((i + 1) * 2) (L.drop (i * 2))).take (i * 2) = L.take (i * 2) := by
    rw [hf, List.take_append_of_le_length (by rw [List.length_take]; omega), List.take_take, <- hL, List.take_take]
    congr 1; omega
  have hd : (splice cur ((i + 1) * 2) (L.drop (i * 2))).drop (i * 2 + 2) = L.drop (i * 2) ++ cur.drop ((n + 1) * 2) := by
    rw [hf, show i * 2 + 2 = (cur.take ((i + 1) * 2)).length by rw [List.length_take]; omega, List.drop_left]
  unfold splice at ht hd ⊢
  rw [h2, ht, hd, <- List.append_assoc, <- List.append_assoc]
  rw [List.take_append_of_le_length (by simp only [List.length_append, List.length_take]; omega)]
  exact List.take_of_length_le (by simp only [List.length_append, List.length_take]; omega)
theorem splice_ins2 (ROW L two : List Value) (i n : Nat) (hL : L.length = n * 2) (hR : ROW.take (i * 2) = L.take (i * 2)) (hn : (n + 1) * 2 <= ROW.length) (hi : i < n) (h2 : two.length = 2) :
    (splice (splice ROW (i * 2) two) ((i + 1) * 2) (L.drop (i * 2))).length = ROW.length /\
    (splice (splice ROW (i * 2) two) ((i + 1) * 2) (L.drop (i * 2))).take ((n + 1) * 2) = L.take (i * 2) ++ two ++ L.drop (i * 2) := by
  have hX : (L.drop (i * 2)).length = n * 2 - i * 2 := by rw [List.length_drop, hL]
  have hl1 : (splice ROW (i * 2) two).length = ROW.length := length_splice _ _ _ (by rw [h2]; omega)
  refine ⟨by rw [length_splice _ _ _ (by rw [hX, hl1]; omega), hl1], ?_⟩
  have ht : (splice ROW (i * 2) two).take ((i + 1) * 2) = L.take (i * 2) ++ two := by
    unfold splice
    rw [<- List.append_assoc, hR, show (i + 1) * 2 = (L.take (i * 2) ++ two).length by rw [List.length_append, List.length_take, h2, hL]; omega, List.take_left]
  generalize splice ROW (i * 2) two = M at *
  unfold splice
  rw [ht, <- List.append_assoc, List.take_append_of_le_length (by simp only [List.length_append, List.length_take, hX, h2, hL]; omega)]
  exact List.take_of_length_le (by simp only [List.length_append, List.length_take, hX, h2, hL]; omega)
theorem run_clear_row (w : World) (t ty elem : TypeId) (i : TypeInfo) (z : Value) (g o n c : Nat) (cur : Array Value) (e : TypeId)
    (hu : P.underlying t = some (.slice elem)) (hi : P.info? elem = some i) (hz : i.zero = some z) (hz1 : ∀ v ∈ z.cells.toList, v.oneCell' = true)
    (hg : w.heap[g]? = some (.cells cur e (0, 0))) (hfit : o + n * z.cells.size <= cur.size) (h0 : 0 < n) :
    (Builtin.clear_ #[t] ty #[.slice (some ⟨g, o, none⟩) n c]).run P w = .ok (.tuple #[]) (w.setRow g (splice cur.toList o (Builtin.zeroCells z.cells n).toList).toArray) := by
  have hsize : (Builtin.zeroCells z.cells n).toList.length = n * z.cells.size := by simp [Builtin.zeroCells]
  have h1 : ∀ v ∈ (Builtin.zeroCells z.cells n).toList, v.oneCell' = true := by
    intro v hv
    simp only [Builtin.zeroCells, Array.toList_map, List.mem_map] at hv
    obtain ⟨j, hj, rfl⟩ := hv
    have hpos : 0 < z.cells.size := by
      rcases Nat.eq_zero_or_pos z.cells.size with h | h
      · simp [h] at hj
      · exact h
    have hlt : j % z.cells.size < z.cells.size := Nat.mod_lt _ hpos
    rw [getElem!_pos z.cells _ hlt]
    exact hz1 _ (Array.getElem_mem_toList hlt)
  have hst := run_storeCells_at P g o e (Builtin.zeroCells z.cells n).toList 0 cur w hg (by simpa [hsize] using hfit) h1
  cases n with
  | zero => omega
  | succ n => simp [Builtin.clear_, run_underlying hu, zeroValue, typeInfo, hi, hz, splice] at hst ⊢; simp [hst]
theorem wpList_clear_run (w : World) {ops : Array Oper} {rest : List Oper} {o : Oper} {a : Act} {Q : Exit -> Act -> World -> Prop} (hgd : o.guard = none) (x : Operand) (t : TypeId)
    (ho : o.op = .call { callee := .builtin .clear, args := #[x], argTypes := #[t] }) (v : Value) (hx : a.eval x = v) {v' : Value} {w' : World}
    (hr : (Builtin.clear_ #[t] o.type #[v]).run P w = .ok v' w') (h : wpList P ops Q rest (a.put o.dst v') w') : wpList P ops Q (o :: rest) a w :=
  wpList_plain hgd fun _ hK => by
    unfold Oper.wp execOp
    simp only [ho, resolve, invoke, builtin, Sem.run_bind, Sem.run_pure, Result.andThen_ok, List.map_toArray, List.map_cons, List.map_nil, hx, hr]
    exact hK _ _ h
end
end Go.Proofs.YtifmdkcpbajdcabGreatDoor
namespace Go.Proofs.YtifmdkcpbajdcabGreatDoor
open Go.RowKit Plain
open Go.Lib renaming hid -> hd_
theorem search_any (l : Prof) (b off c : Nat) (t : Int) (w : World) (h : Sl w 2 (some ⟨b, off, none⟩) l.length (stC l)) (hr : Rises l) (hm : l.length <= 1000) (ht : 0 <= t /\ t <= 300) :
    Calls Tryz.prog 162 #[.slice (some ⟨b, off, none⟩) l.length c, .int .i64 t, .func (.func 163) #[] #[]] w fun e w' =>
      e = .returned (.tuple #[.int .i64 (cnt l t), .bool (hasAt l t)]) /\ Below w.heap.size w w' := by
  go_enter Tryz.func162, Tryz.ntmps162
  go_wp2_with fail
  go_loopw [9, 10] (fun i j wr => ∃ a z : Nat, a <= z /\ z <= l.length /\ i = .int .i64 a /\ j = .int .i64 z /\ (∀ k, k < a -> (l.getD k (0, 0)).1 < t) /\ (z < l.length -> t <= (l.getD z (0, 0)).1) /\ Below w.heap.size w wr) (fun i j _ => (intOf j - intOf i).toNat)
  case atStart => exact ⟨0, l.length, Nat.zero_le _, Nat.le_refl _, rfl, rfl, fun k hk => absurd hk (by omega), fun hh => absurd hh (by omega), Below.refl _ _⟩
  case round =>
    obtain ⟨a, z, haz, hz, rfl, rfl, h1, h2, hb⟩ := hrel
    by_cases hlt : a < z
    · have hsl := h.below hb
      obtain ⟨b', off', e, hbl, hcells⟩ := steps_at hsl (by omega)
      injection e with e
      injection e with e1 e2
      subst e1; subst e2
      obtain ⟨c1, c2⟩ := hcells ((a + z) / 2) (by omega)
      have hx := hr.bd ((a + z) / 2) (by omega)
      have HLT := hd_ (hr.lt)
      have H1 := hd_ h1
      have H2 := hd_ h2
      clear h1 h2 hcells hsl h hr
      have HX := hd_ (rfl : (l.getD ((a + z) / 2) (0, 0)).1 = (l.getD ((a + z) / 2) (0, 0)).1)
      generalize hxx : (l.getD ((a + z) / 2) (0, 0)).1 = x at c1 hx HX
      have HXX := hd_ hxx
      clear hxx HX
      generalize (l.getD ((a + z) / 2) (0, 0)).2 = y at c2
      obtain ⟨t0, t1⟩ := ht
      obtain ⟨x0, x1⟩ := hx
      by_cases hc : x - t < 0
      all_goals
        go_wp2_with (go_at_call 163; refine (cmpAt_any x y t _ ⟨x0, by omega⟩ ⟨t0, t1⟩).mono ?_; rintro e w1 ⟨rfl, hb1⟩)
        go_roundw
      case rel =>
        refine ⟨(a + z) / 2 + 1, z, by omega, hz, by go_num, rfl, fun k hk => ?_, H2.out, hb.trans (hb1.mono hb.size)⟩
        by_cases e : k = (a + z) / 2
        · subst e; rw [HXX.out]; omega
        · have := HLT.out k ((a + z) / 2) (by omega) (by omega)
          rw [HXX.out] at this; omega
      case measure => simp [intOf]; omega
      case rel => exact ⟨a, (a + z) / 2, by omega, by omega, rfl, by go_num, H1.out, fun _ => by rw [HXX.out]; omega, hb.trans (hb1.mono hb.size)⟩
      case measure => simp [intOf]; omega
    · obtain rfl : a = z := by omega
      have HC := hd_ (cnt_eq t l a hz h1 h2)
      have HH := hd_ (hasAt_eq hr h1 h2)
      by_cases hn : a < l.length
      · have hsl := h.below hb
        obtain ⟨b', off', e, hbl, hcells⟩ := steps_at hsl (by omega)
        injection e with e
        injection e with e1 e2
        subst e1; subst e2
        obtain ⟨c1, c2⟩ := hcells a hn
        have hx := hr.bd a hn
        clear hcells hsl h h1 h2 hr
        generalize (l.getD a (0, 0)).1 = x at c1 hx HH
        generalize (l.getD a (0, 0)).2 = y at c2
        obtain ⟨t0, t1⟩ := ht
        obtain ⟨x0, x1⟩ := hx
        go_wp2_with (go_at_call 163; refine (cmpAt_any x y t _ ⟨x0, by omega⟩ ⟨t0, t1⟩).mono ?_; rintro e w1 ⟨rfl, hb1⟩)
        go_ret2
        refine ⟨?_, hb.trans (hb1.mono hb.size)⟩
        have hq : (x - t == 0) = decide (x = t) := by rw [Bool.eq_iff_iff]; simp; omega
        rw [HC.out, HH.out]
        simp [hn, hq]
      · have hd : decide ((a : Int) < (l.length : Int)) = false := by simpa using hn
        clear h1 h2 hr h
        go_wp2_with fail
        go_ret2
        exact ⟨by rw [HC.out, HH.out]; simp [hn], hb⟩
end Go.Proofs.YtifmdkcpbajdcabGreatDoor
namespace Go.Proofs.YtifmdkcpbajdcabGreatDoor
open Go.RowKit Go.Proofs Plain
open Go.Act renaming put -> aP, eval -> aE
open Go.Lib renaming hid -> hd_
theorem step_size : (Tryz.prog.info? 153).map (·.size) = some 2 := by kernel_rfl
theorem cells_app (l m : Prof) : stC (l ++ m) = stC l ++ stC m := by
  induction l with
  | nil => rfl
  | cons s l ih => simp [stC, ih]
theorem cells_take (l : Prof) (k : Nat) : stC (l.take k) = (stC l).take (k * 2) := by
  induction l generalizing k with
  | nil => simp [stC]
  | cons s l ih =>
    cases k with
    | zero => simp [stC]
    | succ k => rw [show (k + 1) * 2 = k * 2 + 1 + 1 by omega]; simp [stC, ih]
theorem cells_drop (l : Prof) (k : Nat) : stC (l.drop k) = (stC l).drop (k * 2) := by
  induction l generalizing k with
  | nil => simp [stC]
  | cons s l ih =>
    cases k with
    | zero => simp [stC]
    | succ k => rw [show (k + 1) * 2 = k * 2 + 1 + 1 by omega]; simp [stC, ih]
theorem owns_mk {w : World} {base g c : Nat} {l : Prof} {cur : List Value} (hbg : base <= g) (hg : w.heap[g]? = some (.cells cur.toArray 153 (0, 0))) (hlen : cur.length = c * 2) (hc : l.length <= c) (hcm : c <= maxLen)
    (ht : cur.take (l.length * 2) = stC l) : Owns w base (some ⟨g, 0, none⟩) c l :=
  ⟨stepCells_len l, .inr ⟨g, c, cur.toArray, rfl, hbg, hg, hc, hcm, by simpa using hlen, by simpa using ht⟩⟩
set_option maxRecDepth 100000 in
theorem insert_end (l : Prof) (A : Option Addr) (c base vb : Nat) (s : Stp) (w : World) (hown : Owns w base A c l) (hb : base <= w.heap.size)
    (hv : Sl w 2 (some ⟨vb, 0, none⟩) 1 (stC [s])) (hm : l.length <= 1000) :
    Calls Tryz.prog 164 #[.slice A l.length c, .int .i64 l.length, .slice (some ⟨vb, 0, none⟩) 1 1] w (RetOwn base (l ++ [s]) w) := by
  obtain ⟨i0, hi0, hz0, hz1, hz2⟩ := info_parts step_info
  have hc : l.length <= c := by
    rcases hown.2 with ⟨hv, hn⟩ | ⟨g, cap, cur, hv, _, _, hle, _⟩
    · omega
    · injection hv with _ _ e; omega
  have hml : l.length + 1 <= maxLen := by unfold maxLen; omega
  rcases Nat.eq_or_lt_of_le hc with rfl | hlt
  all_goals
    go_enter Tryz.func164, Tryz.ntmps164
    go_wp2_with (at_builtin; refine wpList_append_own _ rfl (.tmp 23) (.tmp 24) 101 rfl base 153 i0 _ 2 16 Tryz.underlying101 hi0 hz0 hz1 hz2 rfl (by omega) _ l.length (stC l) rfl hown ⟨vb, 0, none⟩ 1 1 (stC [s]) rfl rfl hv.news (one_cells [s]) hml (by omega) hb ?_)
    intro v' w1 hown' hgrow hn1
    obtain ⟨A', c', rfl⟩ := own_form hown'
    clear hn1
    go_wp2_with fail
    go_ret
    refine ⟨A', c', by simp, ?_, (Below.refl _ _).grown hgrow hb ?_⟩
    · unfold Owns; rw [cells_app, List.length_append]; exact hown'
    · intro k hk
      exact (hown.lt k hk).1
set_option maxRecDepth 100000 in
theorem insert_room (l : Prof) (g c base vb i : Nat) (s : Stp) (w : World) (hown : Owns w base (some ⟨g, 0, none⟩) c l)
    (hv : w.heap[vb]? = some (.cells #[.int .i64 s.1, .int .i64 s.2] 153 (0, 0))) (hne : vb ≠ g) (hm : l.length <= 1000) (hi : i < l.length) (hc : l.length + 1 <= c) :
    Calls Tryz.prog 164 #[.slice (some ⟨g, 0, none⟩) l.length c, .int .i64 i, .slice (some ⟨vb, 0, none⟩) 1 1] w (RetOwn base (l.take i ++ s :: l.drop i) w) := by
  obtain ⟨cur, hbg, hg, hcm, hcs, htake⟩ : ∃ cur : Array Value, base <= g /\ w.heap[g]? = some (.cells cur 153 (0, 0)) /\ c <= maxLen /\ cur.size = c * 2 /\ cur.toList.take (l.length * 2) = stC l := by
    rcases hown.2 with ⟨hv, hn⟩ | ⟨g', cap, cur, hv, h1, h2, _, h3, h4, h5⟩
    · omega
    · injection hv with e1 _ e2
      injection e1 with e1; injection e1 with e1 _
      subst e1; subst e2
      exact ⟨cur, h1, h2, h3, h4, h5⟩
  unfold maxLen at hcm
  have hz2 : ¬ ((i : Int) = (l.length : Int)) := by omega
  have hz3 : ¬ (c : Int) < (l.length : Int) + 1 := by omega
  have hw1 : IntKind.i64.wrap ((i : Int) + 1) = (i : Int) + 1 := IntWalk.i64_in _ (by omega)
  have hb1 : (0 : Int) <= (i : Int) + 1 := by omega
  have htn : ((i : Int) + 1).toNat = i + 1 := by omega
  have hov : ∀ o lb cb, (callFunc 180 #[.slice (some ⟨vb, 0, none⟩) 1 1, .slice (some ⟨g, o, none⟩) lb cb]).run Tryz.prog w = .ok (.value (.bool false)) w := fun o lb cb => by
    rw [run_callFunc_extern Tryz.func180 (by kernel_rfl) (by kernel_rfl) (by kernel_rfl) (e := Extern.SlicesOverlaps.overlaps #[101, 101] #[4]) (by kernel_rfl),
      Lib.run_overlaps_apart w 101 4 153 Tryz.underlying101 2 (fun w => by kernel_rfl) ⟨vb, 0, none⟩ ⟨g, o, none⟩ 1 1 lb cb hne 153 153 2 (c * 2) (by simp [World.shape?, hv]) (by simp [World.shape?, hg, hcs]) (by omega) (by simp [World.frozen?, hv]) (by simp [World.frozen?, hv])]
    rfl
  have hsl := stepCells_len l
  have hcurlen : cur.toList.length = c * 2 := by simpa using hcs
  have hread : ∀ j v, (stC l)[j]? = some v -> cur[j]? = some v := fun j v hj => by
    rw [<- htake, List.getElem?_take] at hj
    split at hj
    · simpa using hj
    · cases hj
  have hdl : (stC (l.drop i)).length = Nat.min (l.length + 1 - i) (l.length - i) * 2 := by
    rw [cells_drop, List.length_drop, hsl]; simp only [Nat.min_def]; split <;> omega
  have hcp1 : ∀ ty dc sc, (Builtin.copy_ #[101, 101] ty #[.slice (some ⟨g, (i + 1) * 2, none⟩) (l.length - i) dc, .slice (some ⟨g, i * 2, none⟩) (l.length + 1 - i) sc]).run Tryz.prog w.drew =
      .ok (goInt (Nat.min (l.length + 1 - i) (l.length - i))) (w.drew.setRow g (splice cur.toList ((i + 1) * 2) (stC (l.drop i))).toArray) := fun ty dc sc =>
    run_copy_cellsK w.drew _ _ ty 153 2 g ((i + 1) * 2) (l.length - i) dc ⟨g, i * 2, none⟩ (l.length + 1 - i) sc cur 153 _ Tryz.underlying101 step_size hg hdl
      (fun j v hj => by
        rw [add_at]
        show w.cell? _ = _
        rw [cell_in hg]
        rw [cells_drop, List.getElem?_drop] at hj
        exact hread _ _ hj)
      (by rw [cells_drop, List.length_drop, hsl, hcs]; omega) (one_cells _)
  obtain ⟨W1, hW1⟩ : ∃ W1, W1 = w.drew.setRow g (splice cur.toList ((i + 1) * 2) (stC (l.drop i))).toArray := ⟨_, rfl⟩
  have hg1 : W1.heap[g]? = some (.cells (splice cur.toList ((i + 1) * 2) (stC (l.drop i))).toArray 153 (0, 0)) := by rw [hW1]; exact setRow_is (w := w.drew) hg _
  have hv1 : W1.heap[vb]? = some (.cells #[.int .i64 s.1, .int .i64 s.2] 153 (0, 0)) := by rw [hW1]; exact (setRow_other w.drew g vb _ hne).trans hv
  have hbel : Below base w W1 := by rw [hW1]; exact below_setRow ((Below.refl _ _).drew) hbg _
  obtain ⟨s1, s2⟩ := splice_ins cur.toList (stC l) [.int .i64 s.1, .int .i64 s.2] i l.length htake (by rw [hcurlen]; omega) hi rfl
  rw [<- cells_drop] at s1 s2
  have hl1 : (splice cur.toList ((i + 1) * 2) (stC (l.drop i))).length = c * 2 := by
    rw [length_splice _ _ _ (by rw [cells_drop, List.length_drop, hsl, hcurlen]; omega), hcurlen]
  have hcp2 : ∀ ty dc, (Builtin.copy_ #[101, 101] ty #[.slice (some ⟨g, i * 2, none⟩) (l.length + 1 - i) dc, .slice (some ⟨vb, 0, none⟩) 1 1]).run Tryz.prog W1 =
      .ok (goInt (Nat.min 1 (l.length + 1 - i))) (W1.setRow g (splice (splice cur.toList ((i + 1) * 2) (stC (l.drop i))) (i * 2) [.int .i64 s.1, .int .i64 s.2]).toArray) := fun ty dc =>
    run_copy_cellsK W1 _ _ ty 153 2 g (i * 2) (l.length + 1 - i) dc ⟨vb, 0, none⟩ 1 1 (splice cur.toList ((i + 1) * 2) (stC (l.drop i))).toArray 153 _ Tryz.underlying101 step_size hg1 (by simp only [Nat.min_def]; split <;> simp; omega)
      (fun j v hj => by rw [add_at, Nat.zero_add, cell_in hv1]; simpa using hj)
      (by rw [List.size_toArray, hl1]; simp only [List.length_cons, List.length_nil]; omega) (by simp [Value.oneCell'])
  obtain ⟨W2, hW2⟩ : ∃ W2, W2 = W1.setRow g (splice (splice cur.toList ((i + 1) * 2) (stC (l.drop i))) (i * 2) [.int .i64 s.1, .int .i64 s.2]).toArray := ⟨_, rfl⟩
  have hg2 : W2.heap[g]? = some (.cells (splice (splice cur.toList ((i + 1) * 2) (stC (l.drop i))) (i * 2) [.int .i64 s.1, .int .i64 s.2]).toArray 153 (0, 0)) := by rw [hW2]; exact setRow_is hg1 _
  have hbel2 : Below base w W2 := by rw [hW2]; exact below_setRow hbel hbg _
  rw [<- hW1] at hcp1
  rw [<- hW2] at hcp2
  have hin : i <= l.length := by omega
  have hb2 : ¬ (c = i + 1) := by omega
  have hb3 : (i : Int) <= (l.length : Int) + 1 := by omega
  have hb4 : ¬ (c = i) := by omega
  have HG2 := hd_ hg2
  have HS1 := hd_ s1
  have HS2 := hd_ s2
  have HL := hd_ hcurlen
  clear hown hg2 hg1 hv1 hl1 hdl hread hW1 hW2 s1 s2 hcurlen htake hsl hbel hcs
  go_enter Tryz.func164, Tryz.ntmps164
  go_wp2_with (simp only [hov])
  go_region_law (refine step_copy_runI rfl (.tmp 73) (.tmp 76) 101 101 rfl _ _ (by simp [aE, aP]) (by simp [aE, aP]) (hcp1 _ _ _) ?_)
  go_wp2_with (at_builtin; refine wpList_copy_runI _ rfl (.tmp 80) (.tmp 81) 101 101 rfl _ _ rfl rfl (hcp2 _ _) ?_)
  go_ret
  have hlen : (l.take i ++ s :: l.drop i).length = l.length + 1 := by simp; omega
  refine ⟨some ⟨g, 0, none⟩, c, by rw [hlen]; rfl, owns_mk hbg HG2.out (by rw [HS1.out, HL.out]) (by rw [hlen]; exact hc) (by unfold maxLen; omega) ?_, hbel2⟩
  rw [hlen, HS2.out, cells_app, cells_take, stC, cells_drop]
  simp
set_option maxRecDepth 100000 in
theorem insert_grow (l : Prof) (g base vb i : Nat) (s : Stp) (w : World) (hown : Owns w base (some ⟨g, 0, none⟩) l.length l) (hb : base <= w.heap.size)
    (hv : w.heap[vb]? = some (.cells #[.int .i64 s.1, .int .i64 s.2] 153 (0, 0))) (hm : l.length <= 1000) (hi : i < l.length) :
    Calls Tryz.prog 164 #[.slice (some ⟨g, 0, none⟩) l.length l.length, .int .i64 i, .slice (some ⟨vb, 0, none⟩) 1 1] w (RetOwn base (l.take i ++ s :: l.drop i) w) := by
  obtain ⟨cur, hbg, hg, hcs, htake⟩ : ∃ cur : Array Value, base <= g /\ w.heap[g]? = some (.cells cur 153 (0, 0)) /\ cur.size = l.length * 2 /\ cur.toList.take (l.length * 2) = stC l := by
    rcases hown.2 with ⟨hv, hn⟩ | ⟨g', cap, cur, hv, h1, h2, _, h3, h4, h5⟩
    · omega
    · injection hv with e1 _ e2
      injection e1 with e1; injection e1 with e1 _
      subst e1; subst e2
      exact ⟨cur, h1, h2, h4, h5⟩
  obtain ⟨i0, hi0, hz0, hzs, hzb⟩ := info_parts step_info
  have hsl := stepCells_len l
  have hgw : g < w.heap.size := (Array.getElem?_eq_some_iff.1 hg).1
  have hvw : vb < w.heap.size := (Array.getElem?_eq_some_iff.1 hv).1
  have hread : ∀ j v, (stC l)[j]? = some v -> cur[j]? = some v := fun j v hj => by
    rw [<- htake, List.getElem?_take] at hj
    split at hj
    · simpa using hj
    · cases hj
  have hkk : (l.length : Int) + 1 - (i : Int) = ((l.length + 1 - i : Nat) : Int) := by omega
  have hik : i + (l.length + 1 - i) = l.length + 1 := by omega
  have hold : (Builtin.firstCells i0.size i (.slice (some ⟨g, 0, none⟩) i l.length)).run Tryz.prog w.drew = .ok ((stC l).take (i * 2)).toArray w.drew := by
    rw [hzs]
    exact run_firstCells_some w.drew 2 i ⟨g, 0, none⟩ i l.length ((stC l).take (i * 2)) (by rw [List.length_take]; omega) (fun j v hj => by
      rw [add_at, Nat.zero_add]
      show w.cell? _ = _
      rw [cell_in hg]
      rw [List.getElem?_take] at hj
      split at hj
      · exact hread j v hj
      · cases hj)
  obtain ⟨G, hG⟩ : ∃ G, G = grownCap w (l.length + 1) l.length 153 := ⟨_, rfl⟩
  obtain ⟨ROW, hROW⟩ : ∃ ROW : List Value, ROW = (stC l).take (i * 2) ++ (Builtin.zeroCells #[.int .i64 0, .int .i64 0] (l.length + 1 - i) ++ Builtin.zeroCells #[.int .i64 0, .int .i64 0] (G - (l.length + 1))).toList := ⟨_, rfl⟩
  obtain ⟨W1, hW1⟩ : ∃ W1, W1 = (w.alloc (.cells ROW.toArray 153)).drew := ⟨_, rfl⟩
  have hrz : ∀ ty, (Builtin.append_ #[101, 3] ty #[.slice (some ⟨g, 0, none⟩) i l.length, .int .i64 ((l.length : Int) + 1 - (i : Int))]).run Tryz.prog w =
      .ok (.slice (some ⟨w.heap.size, 0, none⟩) (l.length + 1) G) W1 := fun ty => by
    have h := Lib.run_append_grow_zeros w 101 3 ty 153 i0 _ .i64 .i64 Tryz.underlying101 Tryz.underlying3 hi0 hz0 (some ⟨g, 0, none⟩) i l.length _ hold (l.length + 1 - i) (by omega) (by omega) (by omega) (by omega) (by rw [hzb]; omega) (by rw [hzb, hik]; exact growslice_fits (by omega) (by omega))
    rw [hik, <- hG] at h
    have e : ∀ (X : List Value) (Z1 Z2 : Array Value), X.toArray ++ Z1 ++ Z2 = (X ++ (Z1 ++ Z2).toList).toArray := fun X Z1 Z2 => by
      apply Array.ext'
      rw [Array.toList_append, Array.toList_append, Array.toList_append, List.append_assoc]
    rw [hkk, h, hW1, hROW, e]
    rfl
  have hGn : l.length + 1 <= G := by rw [hG]; exact grownCap_ge w _ _ _
  have hG63 : G <= maxLen := by rw [hG]; exact grownCap_le_maxLen w (l.length + 1) l.length 153 (by unfold maxLen; omega)
  have hRl : ROW.length = G * 2 := by
    rw [hROW]; simp [Builtin.zeroCells, hsl]; omega
  have hN1 : W1.heap[w.heap.size]? = some (.cells ROW.toArray 153 (0, 0)) := by rw [hW1]; exact heap_alloc_new w _
  have hv1 : W1.heap[vb]? = some (.cells #[.int .i64 s.1, .int .i64 s.2] 153 (0, 0)) := by rw [hW1]; exact (Below.heap_alloc w _ vb hvw).trans hv
  have hg1 : W1.heap[g]? = some (.cells cur 153 (0, 0)) := by rw [hW1]; exact (Below.heap_alloc w _ g hgw).trans hg
  have hb1 : Below base w W1 := by rw [hW1]; exact ((Below.refl _ _).alloc hb _).drew
  obtain ⟨s1, s2⟩ := splice_ins2 ROW (stC l) [.int .i64 s.1, .int .i64 s.2] i l.length hsl (by rw [hROW, List.take_append_of_le_length (by rw [List.length_take]; omega), List.take_take, Nat.min_self]) (by rw [hRl]; omega) hi rfl
  rw [<- cells_drop] at s1 s2
  have hl1 : (splice ROW (i * 2) [.int .i64 s.1, .int .i64 s.2]).length = G * 2 := by
    rw [length_splice _ _ _ (by simp only [List.length_cons, List.length_nil]; omega), hRl]
  have hcpA : ∀ ty dc, (Builtin.copy_ #[101, 101] ty #[.slice (some ⟨w.heap.size, i * 2, none⟩) (l.length + 1 - i) dc, .slice (some ⟨vb, 0, none⟩) 1 1]).run Tryz.prog W1 =
      .ok (goInt (Nat.min 1 (l.length + 1 - i))) (W1.setRow w.heap.size (splice ROW (i * 2) [.int .i64 s.1, .int .i64 s.2]).toArray) := fun ty dc =>
    run_copy_cellsK W1 _ _ ty 153 2 w.heap.size (i * 2) (l.length + 1 - i) dc ⟨vb, 0, none⟩ 1 1 ROW.toArray 153 _ Tryz.underlying101 step_size hN1 (by simp only [Nat.min_def]; split <;> simp; omega)
      (fun j v hj => by rw [add_at, Nat.zero_add, cell_in hv1]; simpa using hj)
      (by rw [List.size_toArray, hRl]; simp only [List.length_cons, List.length_nil]; omega) (by simp [Value.oneCell'])
  obtain ⟨W2, hW2⟩ : ∃ W2, W2 = W1.setRow w.heap.size (splice ROW (i * 2) [.int .i64 s.1, .int .i64 s.2]).toArray := ⟨_, rfl⟩
  have hN2 : W2.heap[w.heap.size]? = some (.cells (splice ROW (i * 2) [.int .i64 s.1, .int .i64 s.2]).toArray 153 (0, 0)) := by rw [hW2]; exact setRow_is hN1 _
  have hg2 : W2.heap[g]? = some (.cells cur 153 (0, 0)) := by rw [hW2]; exact (setRow_other W1 w.heap.size g _ (by omega)).trans hg1
  have hb2 : Below base w W2 := by rw [hW2]; exact below_setRow hb1 hb _
  have hcpB : ∀ ty dc sc, (Builtin.copy_ #[101, 101] ty #[.slice (some ⟨w.heap.size, (i + 1) * 2, none⟩) (l.length - i) dc, .slice (some ⟨g, i * 2, none⟩) (l.length - i) sc]).run Tryz.prog W2.drew =
      .ok (goInt (Nat.min (l.length - i) (l.length - i))) (W2.drew.setRow w.heap.size (splice (splice ROW (i * 2) [.int .i64 s.1, .int .i64 s.2]) ((i + 1) * 2) (stC (l.drop i))).toArray) := fun ty dc sc =>
    run_copy_cellsK W2.drew _ _ ty 153 2 w.heap.size ((i + 1) * 2) (l.length - i) dc ⟨g, i * 2, none⟩ (l.length - i) sc (splice ROW (i * 2) [.int .i64 s.1, .int .i64 s.2]).toArray 153 _ Tryz.underlying101 step_size hN2
      (by rw [cells_drop, List.length_drop, hsl]; simp only [Nat.min_def]; split <;> omega)
      (fun j v hj => by
        rw [add_at]
        show W2.cell? _ = _
        rw [cell_in hg2]
        rw [cells_drop, List.getElem?_drop] at hj
        exact hread _ _ hj)
      (by rw [List.size_toArray, hl1, cells_drop, List.length_drop, hsl]; omega) (one_cells _)
  obtain ⟨W3, hW3⟩ : ∃ W3, W3 = W2.drew.setRow w.heap.size (splice (splice ROW (i * 2) [.int .i64 s.1, .int .i64 s.2]) ((i + 1) * 2) (stC (l.drop i))).toArray := ⟨_, rfl⟩
  have HG3 := hd_ (show W3.heap[w.heap.size]? = some (.cells (splice (splice ROW (i * 2) [.int .i64 s.1, .int .i64 s.2]) ((i + 1) * 2) (stC (l.drop i))).toArray 153 (0, 0)) by rw [hW3]; exact setRow_is (w := W2.drew) hN2 _)
  have hb3 : Below base w W3 := by rw [hW3]; exact below_setRow hb2.drew hb _
  rw [<- hW2] at hcpA
  rw [<- hW3] at hcpB
  have HS1 := hd_ s1
  have HS2 := hd_ s2
  have HL := hd_ hRl
  have hz2 : ¬ ((i : Int) = (l.length : Int)) := by omega
  have hw1 : IntKind.i64.wrap ((i : Int) + 1) = (i : Int) + 1 := IntWalk.i64_in _ (by omega)
  have hp1 : (0 : Int) <= (i : Int) + 1 := by omega
  have htn : ((i : Int) + 1).toNat = i + 1 := by omega
  have hG63' : G <= 9223372036854775807 := by unfold maxLen at hG63; omega
  have hGi : ¬ (G = i) := by omega
  have hGim : ¬ (G = i + 1) := by omega
  have hci : ¬ (l.length = i) := by omega
  have hin : i <= l.length := by omega
  have hin2 : (i : Int) <= (l.length : Int) := by omega
  clear hown hg hg1 hg2 hN1 hN2 hv hv1 hl1 hread hW1 hW2 hW3 hROW hRl hG s1 s2 htake hsl hb1 hb2 hcs hold hkk hik hi0 hz0 hzs hzb hG63
  go_enter Tryz.func164, Tryz.ntmps164
  go_wp2_with (first
    | (at_builtin; refine Lib.wpList_append_run _ rfl (.tmp 34) (.tmp 39) _ _ rfl _ _ rfl rfl _ _ (hrz _) ?_)
    | (at_builtin; refine wpList_copy_runI _ rfl (.tmp 43) (.tmp 44) 101 101 rfl _ _ rfl rfl (hcpA _ _) ?_))
  go_region_law (refine step_copy_runI rfl (.tmp 50) (.tmp 53) 101 101 rfl _ _ (by simp [aE, aP]) (by simp [aE, aP]) (hcpB _ _ _) ?_)
  go_wp2_with fail
  go_ret
  have hlen : (l.take i ++ s :: l.drop i).length = l.length + 1 := by simp; omega
  refine ⟨some ⟨w.heap.size, 0, none⟩, G, by rw [hlen]; rfl, owns_mk hb HG3.out (by rw [HS1.out, HL.out]) (by rw [hlen]; exact hGn) (by unfold maxLen; omega) ?_, hb3⟩
  rw [hlen, HS2.out, cells_app, cells_take, stC, cells_drop]
  simp
theorem owns_sl {w : World} {base : Nat} {A : Option Addr} {c : Nat} {l : Prof} (h : Owns w base A c l) : Sl w 2 A l.length (stC l) := Sl.of_own h
theorem owns_at {w : World} {base : Nat} {A : Option Addr} {c : Nat} {l : Prof} (h : Owns w base A c l) (hl : 0 < l.length) : ∃ g, A = some ⟨g, 0, none⟩ /\ base <= g /\ g < w.heap.size /\ l.length <= c /\ c <= maxLen /\
    ∃ cur : Array Value, w.heap[g]? = some (.cells cur 153 (0, 0)) /\ cur.size = c * 2 := by
  rcases h.2 with ⟨hv, hn⟩ | ⟨g, cap, cur, hv, h1, h2, h3, h4, h5, _⟩
  · omega
  · injection hv with e1 _ e2
    subst e2
    exact ⟨g, e1, h1, (Array.getElem?_eq_some_iff.1 h2).1, h3, h4, cur, h2, h5⟩
set_option maxRecDepth 100000 in
theorem split_any (l : Prof) (A : Option Addr) (c base : Nat) (t : Int) (w : World) (hown : Owns w base A c l) (hb : base <= w.heap.size) (hw : WGood l) (hm : l.length <= 900) (ht : 0 <= t /\ t <= 300) :
    Calls Tryz.prog 134 #[.slice A l.length c, .int .i64 t] w (RetOwn base (splitL l t) w) := by
  have hpos : 0 < l.length := by obtain ⟨x, r, rfl, _⟩ := hw; simp
  have hr := hw.rises
  have hsl := owns_sl hown
  obtain ⟨g, rfl, hbg, hgw, hlc, hcm, cur, hg, hcs⟩ := owns_at hown hpos
  have hcnt : cnt l t <= l.length := by unfold cnt; exact List.Sublist.length_le (List.takeWhile_sublist _)
  by_cases hh : hasAt l t = true
  · have HF := hd_ (show splitL l t = l by simp [splitL, hh])
    go_enter Tryz.func134, Tryz.ntmps134
    go_wp2_with (go_at_call 162; refine (search_any l g 0 c t _ hsl hr (by omega) ht).mono ?_; rintro e w1 ⟨rfl, hb1⟩)
    go_ret
    exact ⟨_, c, by rw [HF.out]; rfl, by rw [HF.out]; exact oBl hown hb1, hb1.mono hb⟩
  · have hh : hasAt l t = false := by simpa using hh
    have hm1 : l.length <= 1000 := by omega
    by_cases h3 : 300 <= t
    · have HF := hd_ (show splitL l t = l by simp [splitL, h3])
      go_enter Tryz.func134, Tryz.ntmps134
      go_wp2_with (go_at_call 162; refine (search_any l g 0 c t _ hsl hr hm1 ht).mono ?_; rintro e w1 ⟨rfl, hb1⟩)
      go_ret
      exact ⟨_, c, by rw [HF.out]; rfl, by rw [HF.out]; exact oBl hown hb1, hb1.mono hb⟩
    · have hk0 : 0 < cnt l t := by
        obtain ⟨x, r, rfl, _⟩ := hw
        have h0 : (0 : Int) < t := by
          have : t ≠ 0 := by rintro rfl; simp [hasAt] at hh
          omega
        simp [cnt, List.takeWhile, h0]
      have HF := hd_ (show splitL l t = l.take (cnt l t) ++ (t, (l.getD (cnt l t - 1) (0, 0)).2) :: l.drop (cnt l t) by simp [splitL, hh, h3])
      obtain ⟨k, hk⟩ : ∃ k, cnt l t = k + 1 := ⟨_, (Nat.succ_pred_eq_of_pos hk0).symm⟩
      have HK := hd_ hk
      have hkl : k + 1 <= l.length := by omega
      obtain ⟨b', off', e, _, hcells⟩ := steps_at hsl hpos
      injection e with e
      injection e with e1 e2
      subst e1; subst e2
      obtain ⟨_, c2⟩ := hcells k (by omega)
      simp only [Nat.zero_add] at c2
      rw [hk, Nat.add_sub_cancel] at HF
      clear hcells hk hk0 hcnt
      generalize (l.getD k (0, 0)).2 = y at c2 HF
      have hw1 : IntKind.i64.wrap ((k : Int) + 1 - 1) = (k : Int) := by rw [IntWalk.i64_in _ (by omega)]; omega
      by_cases hend : k + 1 = l.length
      · have hd : l.drop (k + 1) = [] := List.drop_eq_nil_of_le (by omega)
        have htk : l.take (k + 1) = l := List.take_of_length_le (by omega)
        have HF2 := hd_ (show splitL l t = l ++ [(t, y)] by rw [HF.out, hd, htk])
        clear hd htk HF
        have HF := HF2
        have HE := hd_ hend
        clear hend
        go_enter Tryz.func134, Tryz.ntmps134
        go_wp2_with (go_at_call 162; refine (search_any l g 0 c t _ hsl hr hm1 ht).mono ?_; rintro e w1 ⟨rfl, hb1⟩; rw [HK.out]; obtain ⟨hc1, hf1⟩ := olds hb1; have hz1 := hb1.size)
        have ho1 : Owns (w1.alloc (.cells #[.int .i64 t, .int .i64 y] 153)) base (some ⟨g, 0, none⟩) c l := (oBl hown hb1).alloc _
        have hv1 : (w1.alloc (.cells #[.int .i64 t, .int .i64 y] 153)).heap[w1.heap.size]? = some (.cells #[.int .i64 t, .int .i64 y] 153 (0, 0)) := heap_alloc_new w1 _
        have hbb : Below base w (w1.alloc (.cells #[.int .i64 t, .int .i64 y] 153)) := (hb1.mono hb).alloc (by omega) _
        rw [show ((k : Int) + 1) = ((k + 1 : Nat) : Int) from by omega]
        rw [HE.out]
        refine (insert_end l (some ⟨g, 0, none⟩) c base w1.heap.size (t, y) _ ho1 (by simp; omega) (Sl.new w1 #[.int .i64 t, .int .i64 y] 153 rfl) hm1).mono ?_
        rintro e w2 ⟨A2, c3, rfl, hown2, hb2⟩
        go_wp2_with fail
        go_ret
        refine ⟨A2, c3, ret_sl (by rw [HF.out]; simp <;> omega), by rw [HF.out]; exact hown2, hbb.trans hb2⟩
      · by_cases hroom : l.length + 1 <= c
        · go_enter Tryz.func134, Tryz.ntmps134
          go_wp2_with (go_at_call 162; refine (search_any l g 0 c t _ hsl hr hm1 ht).mono ?_; rintro e w1 ⟨rfl, hb1⟩; rw [HK.out]; obtain ⟨hc1, hf1⟩ := olds hb1; have hz1 := hb1.size)
          have ho1 : Owns (w1.alloc (.cells #[.int .i64 t, .int .i64 y] 153)) base (some ⟨g, 0, none⟩) c l := (oBl hown hb1).alloc _
          have hv1 : (w1.alloc (.cells #[.int .i64 t, .int .i64 y] 153)).heap[w1.heap.size]? = some (.cells #[.int .i64 t, .int .i64 y] 153 (0, 0)) := heap_alloc_new w1 _
          have hbb : Below base w (w1.alloc (.cells #[.int .i64 t, .int .i64 y] 153)) := (hb1.mono hb).alloc (by omega) _
          rw [show ((k : Int) + 1) = ((k + 1 : Nat) : Int) from by omega]
          refine (insert_room l g c base w1.heap.size (k + 1) (t, y) _ ho1 hv1 (by omega) hm1 (by omega) hroom).mono ?_
          rintro e w2 ⟨A2, c3, rfl, hown2, hb2⟩
          go_wp2_with fail
          go_ret
          refine ⟨A2, c3, ret_sl (by rw [HF.out]; simp <;> omega), by rw [HF.out]; exact hown2, hbb.trans hb2⟩
        · obtain rfl : c = l.length := by omega
          go_enter Tryz.func134, Tryz.ntmps134
          go_wp2_with (go_at_call 162; refine (search_any l g 0 l.length t _ hsl hr hm1 ht).mono ?_; rintro e w1 ⟨rfl, hb1⟩; rw [HK.out]; obtain ⟨hc1, hf1⟩ := olds hb1; have hz1 := hb1.size)
          have ho1 : Owns (w1.alloc (.cells #[.int .i64 t, .int .i64 y] 153)) base (some ⟨g, 0, none⟩) l.length l := (oBl hown hb1).alloc _
          have hv1 : (w1.alloc (.cells #[.int .i64 t, .int .i64 y] 153)).heap[w1.heap.size]? = some (.cells #[.int .i64 t, .int .i64 y] 153 (0, 0)) := heap_alloc_new w1 _
          have hbb : Below base w (w1.alloc (.cells #[.int .i64 t, .int .i64 y] 153)) := (hb1.mono hb).alloc (by omega) _
          rw [show ((k : Int) + 1) = ((k + 1 : Nat) : Int) from by omega]
          refine (insert_grow l g base w1.heap.size (k + 1) (t, y) _ ho1 (by simp; omega) hv1 hm1 (by omega)).mono ?_
          rintro e w2 ⟨A2, c3, rfl, hown2, hb2⟩
          go_wp2_with fail
          go_ret
          refine ⟨A2, c3, ret_sl (by rw [HF.out]; simp <;> omega), by rw [HF.out]; exact hown2, hbb.trans hb2⟩
theorem cells_set (l : Prof) : ∀ (k : Nat) (s : Stp), k < l.length -> ((stC l).set (k * 2) (.int .i64 s.1)).set (k * 2 + 1) (.int .i64 s.2) = stC (l.set k s) := by
  induction l with
  | nil => intro k s h; simp at h
  | cons q l ih =>
    intro k s h
    cases k with
    | zero => simp [stC]
    | succ k =>
      rw [show (k + 1) * 2 = k * 2 + 1 + 1 by omega, show k * 2 + 1 + 1 + 1 = (k * 2 + 1) + 1 + 1 by omega]
      simp only [stC, List.set_cons_succ]
      rw [ih k s (by simpa using h)]
theorem owns_set {w : World} {base g c : Nat} {l : Prof} (h : Owns w base (some ⟨g, 0, none⟩) c l) (k : Nat) (s : Stp) (hk : k < l.length) :
    Owns ((w.setCell ⟨g, k * 2, none⟩ (.int .i64 s.1)).setCell ⟨g, k * 2 + 1, none⟩ (.int .i64 s.2)) base (some ⟨g, 0, none⟩) c (l.set k s) := by
  have h1 := (h.stored (k * 2) (.int .i64 s.1)).1
  have h2 := (h1.stored (k * 2 + 1) (.int .i64 s.2)).1
  rw [cells_set l k s hk] at h2
  unfold Owns
  rw [List.length_set]
  exact h2
theorem owns_cells {w : World} {base g c : Nat} {l : Prof} (h : Owns w base (some ⟨g, 0, none⟩) c l) (j : Nat) (hj : j < l.length) :
    w.cell? ⟨g, j * 2, none⟩ = some (.int .i64 (l.getD j (0, 0)).1) /\ w.cell? ⟨g, j * 2 + 1, none⟩ = some (.int .i64 (l.getD j (0, 0)).2) := by
  obtain ⟨b', off', e, _, hcells⟩ := steps_at (owns_sl h) (by omega)
  injection e with e
  injection e with e1 e2
  subst e1; subst e2
  have := hcells j hj
  simpa only [Nat.zero_add] using this
def Inner (l : Prof) (base g c : Nat) (w : World) (k kk m : Nat) (M : Prof) (wr : World) : Prop :=
  M.length = l.length /\ Owns wr base (some ⟨g, 0, none⟩) c M /\ M.take kk = tidyL (l.take (k + m + 1)) /\ (∀ j, k + m <= j -> j < l.length -> M.getD j (0, 0) = l.getD j (0, 0)) /\ Below base w wr
set_option maxRecDepth 100000 in
theorem compact_any (l : Prof) (g c base : Nat) (w : World) (hown : Owns w base (some ⟨g, 0, none⟩) c l) (_ : base <= w.heap.size) (hm : l.length <= 1000) (hpos : 0 < l.length) :
    Calls Tryz.prog 165 #[.slice (some ⟨g, 0, none⟩) l.length c, .func (.func 166) #[] #[]] w (RetOwn base (tidyL l) w) := by
  obtain ⟨g', e, hbg, hgw, hlc, hcm, _⟩ := owns_at hown hpos
  injection e with e
  injection e with e1 _
  subst e1
  unfold maxLen at hcm
  by_cases h2 : l.length < 2
  · have HF := hd_ (tidy_one l (by omega))
    go_enter Tryz.func165, Tryz.ntmps165
    go_wp2_with fail
    go_ret
    exact ⟨_, c, by rw [HF.out]; rfl, by rw [HF.out]; exact hown, Below.refl _ _⟩
  · have d10 : decide ((l.length : Int) < 2) = false := by simp; omega
    go_enter Tryz.func165, Tryz.ntmps165
    go_wp2_with fail
    go_loopw [5] (fun i wr => ∃ k : Nat, k + 1 <= l.length /\ i = .int .i64 ((k + 1 : Nat) : Int) /\ tidyL (l.take (k + 1)) = l.take (k + 1) /\ Owns wr base (some ⟨g, 0, none⟩) c l /\ Below base w wr) (fun i _ => l.length - (intOf i).toNat)
    case atStart => exact ⟨0, hpos, rfl, tidy_one _ (by rw [List.length_take]; omega), hown, Below.refl _ _⟩
    case round =>
      obtain ⟨k, hk, rfl, ht, ho, hbw⟩ := hrel
      by_cases hlt : k + 1 < l.length
      · obtain ⟨c1, c2⟩ := owns_cells ho (k + 1) hlt
        obtain ⟨c3, c4⟩ := owns_cells ho k (by omega)
        have HT := hd_ (tidy_take hlt)
        have HO := hd_ ho
        have hgr : g < wr.heap.size := by have := hbw.size; omega
        have HTT := hd_ ht
        have hw1 : IntKind.i64.wrap (k : Int) = (k : Int) := IntWalk.i64_in _ (by omega)
        have hck : ¬ (c = k + 1) := by omega
        clear ho ht hown
        have d15 : decide ((k : Int) + 1 < (l.length : Int)) = true := by simp; omega
        by_cases hs : ((l.getD (k + 1) (0, 0)).2 == (l.getD k (0, 0)).2) = true
        · generalize (l.getD (k + 1) (0, 0)).2 = y at c2 hs HT
          generalize (l.getD k (0, 0)).2 = y' at c4 hs HT
          generalize (l.getD (k + 1) (0, 0)).1 = x at c1
          generalize (l.getD k (0, 0)).1 = x' at c3
          go_wp2_with fail
          have b1 : (0 : Int) <= (k : Int) + 1 := by omega
          have b2 : (k : Int) + 1 < (l.length : Int) := by omega
          have b3 : (0 : Int) <= (k : Int) := by omega
          have b4 : (k : Int) < (l.length : Int) := by omega
          have t1 : ((k : Int) + 1).toNat = k + 1 := by omega
          go_region_held3 (fun w' => w'.cell? ⟨g, (k + 1) * 2, none⟩ = some (.int .i64 x) /\ w'.cell? ⟨g, (k + 1) * 2 + 1, none⟩ = some (.int .i64 y) /\ w'.cell? ⟨g, k * 2, none⟩ = some (.int .i64 x') /\ w'.cell? ⟨g, k * 2 + 1, none⟩ = some (.int .i64 y')) (go_keep)
            (first | (go_at_call 166; refine (same_any x y x' y' _).mono ?_; rintro e w1 ⟨rfl, hb1⟩; replace hb1 := bUn hb1; obtain ⟨hc1, hf1⟩ := olds hb1))
          have hz1 := hb1.size
          go_wp2_with fail
          obtain ⟨n2, hn2⟩ : ∃ n2, l.length - (k + 1) = n2 := ⟨_, rfl⟩
          rw [hn2]
          have hln : l.length = k + 1 + n2 := by omega
          have HLN := hd_ hln
          have hn2p : 0 < n2 := by omega
          have hcn : k + 1 + n2 <= c := by omega
          have hn21 : n2 <= 1000 := by omega
          have hgbk : g < w1.heap.size := by omega
          have HI := hd_ (show Inner l base g c w (k + 1) (k + 1) 0 l w1 from ⟨rfl, oBl HO.out hb1, by rw [HT.out, HTT.out, if_pos (by simpa using hs)]; simp, fun j _ _ => rfl, hbw.trans (hb1.mono (by omega))⟩)
          have HKL := hd_ (show (tidyL (l.take (k + 1 + 0 + 1))).length = k + 1 by rw [Nat.add_zero, HT.out, HTT.out, if_pos (by simpa using hs), List.append_nil, List.length_take]; omega)
          clear hc1 hf1 hz1 hn2 hln HO HT HTT c1 c2 c3 c4 hs hb1 hgr hbw hw1 hck d15 hk hlt hlc
          go_loopw [5, 7] (fun kv mv wr2 => ∃ (kk m : Nat) (M : Prof), kv = .int .i64 kk /\ mv = .int .i64 ((m + 1 : Nat) : Int) /\ kk <= k + 1 + m /\ m + 1 <= n2 /\ (tidyL (l.take (k + 1 + m + 1))).length = kk /\ Inner l base g c w (k + 1) kk m M wr2) (fun _ mv _ => n2 - (intOf mv).toNat)
          case atStart => exact ⟨k + 1, 0, l, by go_num, rfl, by omega, by omega, HKL.out, HI.out⟩
          case round =>
            obtain ⟨kk, m, M, rfl, rfl, hkk, hmn, hkl, hI⟩ := hrel
            clear HI HKL
            have HLN' := HLN.out
            obtain ⟨i1, i2, i3, i4, i5⟩ := hI
            have hgr2 : g < wr.heap.size := by
              obtain ⟨g', e, _, hh, _⟩ := owns_at i2 (by omega)
              injection e with e; injection e with e1 _; rw [e1]; exact hh
            have HI2 := hd_ i2
            have HI1 := hd_ i1
            have HI3 := hd_ i3
            have HI4 := hd_ i4
            have HKL := hd_ hkl
            by_cases hlt2 : m + 1 < n2
            · obtain ⟨c1, c2⟩ := owns_cells i2 (k + 1 + (m + 1)) (by omega)
              obtain ⟨c3, c4⟩ := owns_cells i2 (k + 1 + m) (by omega)
              have f1 : _ = _ := i4 (k + 1 + (m + 1)) (by omega) (by omega)
              have f2 : _ = _ := i4 (k + 1 + m) (by omega) (by omega)
              rw [f1] at c1 c2
              rw [f2] at c3 c4
              have HT := hd_ (tidy_take (l := l) (m := k + 1 + m) (by omega))
              rw [show k + 1 + m + 1 = k + 1 + (m + 1) by omega] at HT
              rw [show (k + 1 + (m + 1)) * 2 = (k + 1) * 2 + (m + 1) * 2 by omega] at c1 c2
              rw [show (k + 1 + m) * 2 = (k + 1) * 2 + m * 2 by omega] at c3 c4
              clear f1 f2 i1 i2 i3 i4 hkl HLN'
              generalize hxx : (l.getD (k + 1 + (m + 1)) (0, 0)) = q at c1 c2 HT
              have HQ := hd_ hxx
              clear hxx
              obtain ⟨x, y⟩ := q
              generalize (l.getD (k + 1 + m) (0, 0)).2 = y' at c4 HT
              generalize (l.getD (k + 1 + m) (0, 0)).1 = x' at c3
              dsimp only at c1 c2
              have hw1 : IntKind.i64.wrap (m : Int) = (m : Int) := IntWalk.i64_in _ (by omega)
              have d35 : decide ((m : Int) + 1 < (n2 : Int)) = true := by simp; omega
              by_cases hs : (y == y') = true
              · go_wp2_with fail
                have b1 : (0 : Int) <= (m : Int) + 1 := by omega
                have b2 : (m : Int) + 1 < (n2 : Int) := by omega
                have b3 : (0 : Int) <= (m : Int) := by omega
                have b4 : (m : Int) < (n2 : Int) := by omega
                have t1 : ((m : Int) + 1).toNat = m + 1 := by omega
                go_region_held3 (fun w' => w'.cell? ⟨g, (k + 1) * 2 + (m + 1) * 2, none⟩ = some (.int .i64 x) /\ w'.cell? ⟨g, (k + 1) * 2 + (m + 1) * 2 + 1, none⟩ = some (.int .i64 y) /\ w'.cell? ⟨g, (k + 1) * 2 + m * 2, none⟩ = some (.int .i64 x') /\ w'.cell? ⟨g, (k + 1) * 2 + m * 2 + 1, none⟩ = some (.int .i64 y')) (go_keep)
                  (first | (go_at_call 166; refine (same_any x y x' y' _).mono ?_; rintro e w3 ⟨rfl, hb3⟩; replace hb3 := bUn hb3; obtain ⟨hc3, hf3⟩ := olds hb3))
                have hz3 := hb3.size
                go_wp2_with fail
                go_roundw
                case rel =>
                  have hs' : y = y' := by simpa using hs
                  have e : tidyL (l.take (k + 1 + (m + 1) + 1)) = tidyL (l.take (k + 1 + (m + 1))) := by rw [HT.out, if_pos hs', List.append_nil]
                  refine ⟨kk, m + 1, M, rfl, by go_num, by omega, by omega, by rw [e]; exact HKL.out, HI1.out, oBl HI2.out hb3, by rw [e]; exact HI3.out, fun j j1 j2 => HI4.out j (by omega) j2, i5.trans (hb3.mono (by omega))⟩
                case measure => simp [intOf] <;> omega
              · have hs : (y == y') = false := by simpa using hs
                go_wp2_with fail
                have b1 : (0 : Int) <= (m : Int) + 1 := by omega
                have b2 : (m : Int) + 1 < (n2 : Int) := by omega
                have b3 : (0 : Int) <= (m : Int) := by omega
                have b4 : (m : Int) < (n2 : Int) := by omega
                have t1 : ((m : Int) + 1).toNat = m + 1 := by omega
                go_region_held3 (fun w' => w'.cell? ⟨g, (k + 1) * 2 + (m + 1) * 2, none⟩ = some (.int .i64 x) /\ w'.cell? ⟨g, (k + 1) * 2 + (m + 1) * 2 + 1, none⟩ = some (.int .i64 y) /\ w'.cell? ⟨g, (k + 1) * 2 + m * 2, none⟩ = some (.int .i64 x') /\ w'.cell? ⟨g, (k + 1) * 2 + m * 2 + 1, none⟩ = some (.int .i64 y')) (go_keep)
                  (first | (go_at_call 166; refine (same_any x y x' y' _).mono ?_; rintro e w3 ⟨rfl, hb3⟩; replace hb3 := bUn hb3; obtain ⟨hc3, hf3⟩ := olds hb3))
                have hz3 := hb3.size
                have own3 := oBl HI2.out hb3
                have hkM : kk < M.length := by rw [HI1.out, HLN.out]; omega
                have hkl2 : kk < l.length := by rw [HLN.out]; omega
                obtain ⟨k1, k2⟩ := owns_cells own3 kk hkM
                have fz1 := own3.frozenAt (kk * 2)
                have fz2 := own3.frozenAt (kk * 2 + 1)
                have b5 : (kk : Int) < (l.length : Int) := by omega
                have hw5 : IntKind.i64.wrap ((kk : Int) + 1) = (kk : Int) + 1 := IntWalk.i64_in _ (by omega)
                have HO3 := hd_ own3
                have HKM := hd_ hkM
                clear own3 hkM hc3 hf3
                go_wp2_with fail
                go_roundw
                case rel =>
                  have hs' : ¬ y = y' := by simpa using hs
                  have e : tidyL (l.take (k + 1 + (m + 1) + 1)) = tidyL (l.take (k + 1 + (m + 1))) ++ [(x, y)] := by rw [HT.out, if_neg hs']
                  have hkl' : (tidyL (l.take (k + 1 + (m + 1)))).length = kk := HKL.out
                  have h3' : M.take kk = tidyL (l.take (k + 1 + (m + 1))) := HI3.out
                  refine ⟨kk + 1, m + 1, M.set kk (x, y), by go_num, by go_num, by omega, by omega, by rw [e, List.length_append, hkl']; rfl, by rw [List.length_set]; exact HI1.out, owns_set HO3.out kk (x, y) HKM.out, ?_, fun j j1 j2 => ?_, ((i5.trans (hb3.mono (by omega))).setCell (by exact hbg) _).setCell (by exact hbg) _⟩
                  · rw [e, <- h3', List.take_succ_eq_append_getElem (by rw [List.length_set]; exact HKM.out), List.take_set_of_le (Nat.le_refl _), List.getElem_set_self]
                  · rw [<- HI4.out j (by omega) j2, List.getD_eq_getElem?_getD, List.getElem?_set_ne (by omega), <- List.getD_eq_getElem?_getD]
                case measure => simp [intOf] <;> omega
            · have hme : m + 1 = n2 := by omega
              have d35 : decide ((m : Int) + 1 < (n2 : Int)) = false := by simp; omega
              have HFIN := hd_ (show tidyL (l.take (k + 1 + m + 1)) = tidyL l by rw [List.take_of_length_le (by omega)])
              have hkn : kk < l.length := by omega
              have hkc : ¬ (c = kk) := by omega
              have hkb : (kk : Int) <= (l.length : Int) := by omega
              obtain ⟨g', e, _, _, hlc2, hcm2, cur, hgc, hcs⟩ := owns_at i2 (by omega)
              injection e with e
              injection e with e1 _
              subst e1
              have htk : cur.toList.take (M.length * 2) = stC M := by
                rcases i2.2 with ⟨_, hn⟩ | ⟨g', cap, cur', hv, _, h2, _, _, _, h5⟩
                · omega
                · injection hv with e1 _ _
                  injection e1 with e1; injection e1 with e1 _
                  subst e1
                  rw [hgc] at h2
                  injection h2 with h2; injection h2 with h2 _ _
                  rw [h2]; exact h5
              obtain ⟨i0, hi0, hz0, hzs, hzb⟩ := info_parts step_info
              have hclr : ∀ ty cc, (Builtin.clear_ #[101] ty #[.slice (some ⟨g, kk * 2, none⟩) (l.length - kk) cc]).run Tryz.prog wr = .ok (.tuple #[]) (wr.setRow g (splice cur.toList (kk * 2) (Builtin.zeroCells (Value.agg #[.int .i64 0, .int .i64 0]).cells (l.length - kk)).toList).toArray) := fun ty cc =>
                run_clear_row wr _ ty 153 i0 _ g (kk * 2) (l.length - kk) cc cur 153 Tryz.underlying101 hi0 hz0 (by simp [Value.cells, Value.oneCell']) hgc (by rw [hcs]; simp [Value.cells]; omega) (by omega)
              obtain ⟨W4, hW4⟩ : ∃ W4, W4 = wr.setRow g (splice cur.toList (kk * 2) (Builtin.zeroCells (Value.agg #[.int .i64 0, .int .i64 0]).cells (l.length - kk)).toList).toArray := ⟨_, rfl⟩
              have hzl : (Builtin.zeroCells (Value.agg #[.int .i64 0, .int .i64 0]).cells (l.length - kk)).toList.length = (l.length - kk) * 2 := by simp [Builtin.zeroCells, Value.cells]
              have HG4 := hd_ (show W4.heap[g]? = some (.cells (splice cur.toList (kk * 2) (Builtin.zeroCells (Value.agg #[.int .i64 0, .int .i64 0]).cells (l.length - kk)).toList).toArray 153 (0, 0)) by rw [hW4]; exact setRow_is hgc _)
              have HL4 := hd_ (show (splice cur.toList (kk * 2) (Builtin.zeroCells (Value.agg #[.int .i64 0, .int .i64 0]).cells (l.length - kk)).toList).length = c * 2 by rw [length_splice _ _ _ (by rw [hzl]; simp only [Array.length_toList, hcs]; omega)]; simpa using hcs)
              have HT4 := hd_ (show (splice cur.toList (kk * 2) (Builtin.zeroCells (Value.agg #[.int .i64 0, .int .i64 0]).cells (l.length - kk)).toList).take (kk * 2) = stC (tidyL l) by
                unfold splice
                rw [List.take_append_of_le_length (by rw [List.length_take]; simp only [Array.length_toList, hcs]; omega), List.take_take, Nat.min_self, <- HFIN.out, <- HI3.out, cells_take, <- htk, List.take_take]
                congr 1; omega)
              have hb4 : Below base w W4 := by rw [hW4]; exact below_setRow i5 hbg _
              rw [<- hW4] at hclr
              have HKT := hd_ (show (tidyL l).length = kk by rw [<- HFIN.out]; exact HKL.out)
              have hlc3 : kk <= c := by omega
              clear i1 i2 i3 i4 hkl HLN' hi0 hz0 hzs hzb hW4 hzl htk hgc hcs hme HFIN HKL HI3
              go_wp2_with (refine wpList_clear_run _ rfl (.tmp 61) 101 rfl _ rfl (hclr _ _) ?_)
              go_ret
              exact ⟨some ⟨g, 0, none⟩, c, ret_sl HKT.out.symm, owns_mk hbg HG4.out HL4.out (by rw [HKT.out]; exact hlc3) hcm2 (by rw [HKT.out]; exact HT4.out), hb4⟩
        · have hs : ((l.getD (k + 1) (0, 0)).2 == (l.getD k (0, 0)).2) = false := by simpa using hs
          have HQ := hd_ (rfl : l.getD (k + 1) (0, 0) = l.getD (k + 1) (0, 0))
          have HE := hd_ (show l.take (k + 1 + 1) = l.take (k + 1) ++ [l.getD (k + 1) (0, 0)] by
            rw [List.take_succ_eq_append_getElem hlt, List.getD_eq_getElem?_getD, List.getElem?_eq_getElem hlt]; rfl)
          have HT2 := hd_ (show tidyL (l.take (k + 1 + 1)) = l.take (k + 1 + 1) by
            rw [HT.out, HTT.out, if_neg (by simpa using hs), <- HE.out])
          clear HT HTT HE HQ
          generalize (l.getD (k + 1) (0, 0)).2 = y at c2 hs
          generalize (l.getD k (0, 0)).2 = y' at c4 hs
          generalize (l.getD (k + 1) (0, 0)).1 = x at c1
          generalize (l.getD k (0, 0)).1 = x' at c3
          go_wp2_with fail
          have b1 : (0 : Int) <= (k : Int) + 1 := by omega
          have b2 : (k : Int) + 1 < (l.length : Int) := by omega
          have b3 : (0 : Int) <= (k : Int) := by omega
          have b4 : (k : Int) < (l.length : Int) := by omega
          have t1 : ((k : Int) + 1).toNat = k + 1 := by omega
          go_region_held3 (fun w' => w'.cell? ⟨g, (k + 1) * 2, none⟩ = some (.int .i64 x) /\ w'.cell? ⟨g, (k + 1) * 2 + 1, none⟩ = some (.int .i64 y) /\ w'.cell? ⟨g, k * 2, none⟩ = some (.int .i64 x') /\ w'.cell? ⟨g, k * 2 + 1, none⟩ = some (.int .i64 y')) (go_keep)
            (first | (go_at_call 166; refine (same_any x y x' y' _).mono ?_; rintro e w1 ⟨rfl, hb1⟩; replace hb1 := bUn hb1; obtain ⟨hc1, hf1⟩ := olds hb1))
          have hz1 := hb1.size
          go_wp2_with fail
          go_roundw
          case rel => exact ⟨k + 1, hlt, by go_num, HT2.out, oBl HO.out hb1, hbw.trans (hb1.mono (by omega))⟩
          case measure => simp [intOf] <;> omega
      · have hke : l.length = k + 1 := by omega
        have d15 : decide ((k : Int) + 1 < (l.length : Int)) = false := by simp; omega
        have HF := hd_ (show tidyL l = l by rw [<- hke] at ht; rwa [List.take_length] at ht)
        clear ht hke
        go_wp2_with fail
        go_ret
        exact ⟨_, c, by rw [HF.out]; rfl, by rw [HF.out]; exact ho, hbw⟩
theorem tidy_any (l : Prof) (g c base : Nat) (w : World) (hown : Owns w base (some ⟨g, 0, none⟩) c l) (hb : base <= w.heap.size) (hm : l.length <= 1000) (hpos : 0 < l.length) :
    Calls Tryz.prog 136 #[.slice (some ⟨g, 0, none⟩) l.length c] w (RetOwn base (tidyL l) w) := by
  go_enter Tryz.func136, Tryz.ntmps136
  go_wp2_with (go_at_call 165; refine (compact_any l g c base _ hown hb hm hpos).mono ?_; rintro e w1 ⟨A, c1, rfl, h1, h2⟩)
  go_ret
  exact ⟨A, c1, rfl, h1, h2⟩
def RetPair (r : Prof × Bool) (w : World) (e : Ending) (w' : World) : Prop :=
  ∃ A c, e = .returned (.tuple #[.slice A r.1.length c, .bool r.2]) /\ Sl w' 2 A r.1.length (stC r.1) /\ Below w.heap.size w w'
theorem fr_own {w : World} {base size n c : Nat} {T : TypeId} {A : Option Addr} {xs : List Value} (h : w.ownsRow base T size (.slice A n c) n xs) : Fr base A := by
  rcases h.2 with ⟨hv, _⟩ | ⟨g, cap, cur, hv, hg, _⟩
  · injection hv with hA _ _; subst hA; exact Fr.none _
  · injection hv with hA _ _; subst hA; exact Fr.some hg
def RetPairF (A0 : Option Addr) (r : Prof × Bool) (w : World) (e : Ending) (w' : World) : Prop :=
  ∃ A c, e = .returned (.tuple #[.slice A r.1.length c, .bool r.2]) /\ Sl w' 2 A r.1.length (stC r.1) /\ Below w.heap.size w w' /\ (A = A0 \/ Fr w.heap.size A)
def RetPairB (r : Prof × Bool) (w : World) (e : Ending) (w' : World) : Prop :=
  ∃ A c, e = .returned (.tuple #[.slice A r.1.length c, .bool r.2]) /\ Sl w' 2 A r.1.length (stC r.1) /\ Below w.heap.size w w' /\ Fr w.heap.size A
theorem RetPairF.pair {A0 : Option Addr} {r : Prof × Bool} {w w' : World} {e : Ending} (h : RetPairF A0 r w e w') : RetPair r w e w' := by
  obtain ⟨A, c, h1, h2, h3, _⟩ := h; exact ⟨A, c, h1, h2, h3⟩
theorem RetPairB.pair {r : Prof × Bool} {w w' : World} {e : Ending} (h : RetPairB r w e w') : RetPair r w e w' := by
  obtain ⟨A, c, h1, h2, h3, _⟩ := h; exact ⟨A, c, h1, h2, h3⟩
theorem Sl.beside {w : World} {size n g j : Nat} {A : Option Addr} {xs : List Value} (h : Sl w size A n xs) (hA : Fr (g + 1) A) (v : Value) : Sl (w.setCell ⟨g, j, Option.none⟩ v) size A n xs :=
  ⟨h.1, fun hn => by
    obtain ⟨b, off, e, hc⟩ := h.2 hn
    have hb := hA _ e
    exact ⟨b, off, e, fun i hi => (World.cell?_of_block (w := w) (Below.heap_setCell w ⟨g, j, Option.none⟩ v b (by simp only at hb ⊢; omega))).trans (hc i hi)⟩⟩
theorem good_len {l : Prof} (h : Plain.Good l) : 0 < l.length /\ l.length <= 300 := by
  have hr := h.weak.rises
  obtain ⟨x, r, e, _⟩ := h
  have key : ∀ i, i < l.length -> (i : Int) <= (l.getD i (0, 0)).1 := by
    intro i
    induction i with
    | zero => intro hi; have := (hr.bd 0 hi).1; simpa using this
    | succ i ih => intro hi; have := ih (by omega); have := hr.lt i (i + 1) (by omega) hi; omega
  have hp : 0 < l.length := by rw [e]; simp
  refine ⟨hp, ?_⟩
  have := key (l.length - 1) (by omega)
  have := (hr.bd (l.length - 1) (by omega)).2
  omega
theorem split_len (l : Prof) (t : Int) : (splitL l t).length <= l.length + 1 := by
  unfold splitL; split
  · omega
  · have : cnt l t <= l.length := by unfold cnt; exact List.Sublist.length_le (List.takeWhile_sublist _)
    simp; omega
def bumpTo (fr to n : Int) (l : Prof) (k : Nat) : Prof := (l.take k).map (bump fr to n) ++ l.drop k
theorem bumpTo_len (fr to n : Int) (l : Prof) (k : Nat) : (bumpTo fr to n l k).length = l.length := by simp [bumpTo]; omega
theorem bumpTo_zero (fr to n : Int) (l : Prof) : bumpTo fr to n l 0 = l := by simp [bumpTo]
theorem bumpTo_all (fr to n : Int) (l : Prof) : bumpTo fr to n l l.length = l.map (bump fr to n) := by simp [bumpTo]
theorem bumpTo_at (fr to n : Int) (l : Prof) (k : Nat) (h : k < l.length) : (bumpTo fr to n l k).getD k (0, 0) = l.getD k (0, 0) := by
  simp only [bumpTo, List.getD_eq_getElem?_getD]
  rw [List.getElem?_append_right (by simp; omega)]
  simp only [List.length_map, List.length_take, List.getElem?_drop]
  congr 2; omega
theorem bumpTo_succ (fr to n : Int) (l : Prof) (k : Nat) (h : k < l.length) : bumpTo fr to n l (k + 1) = (bumpTo fr to n l k).set k (bump fr to n (l.getD k (0, 0))) := by
  unfold bumpTo
  have e : l.take (k + 1) = l.take k ++ [l.getD k (0, 0)] := by
    rw [List.take_succ_eq_append_getElem h, List.getD_eq_getElem?_getD, List.getElem?_eq_getElem h]; rfl
  rw [e, List.map_append, List.append_assoc, List.set_append_right _ _ (by simp; omega)]
  have e2 : k - ((l.take k).map (bump fr to n)).length = 0 := by simp; omega
  rw [e2, List.drop_eq_getElem_cons h]
  rfl
def fitAt (fr to n : Int) (s : Stp) : Bool := !(decide (fr <= s.1) && decide (s.1 < to)) || (decide (0 <= s.2 + n) && decide (s.2 + n <= 16))
theorem fits_no {fr to n : Int} {l : Prof} {k : Nat} (hk : k < l.length) (h : fitAt fr to n (l.getD k (0, 0)) = false) : fits fr to n l = false := by
  simp only [fits, List.all_eq_false]
  refine ⟨l.getD k (0, 0), ?_, ?_⟩
  · rw [List.getD_eq_getElem?_getD, List.getElem?_eq_getElem hk]; exact List.getElem_mem _
  · rw [show (!(decide (fr <= (l.getD k (0, 0)).1) && decide ((l.getD k (0, 0)).1 < to)) || (decide (0 <= (l.getD k (0, 0)).2 + n) && decide ((l.getD k (0, 0)).2 + n <= 16))) = fitAt fr to n (l.getD k (0, 0)) from rfl, h]; simp
theorem fits_yes {fr to n : Int} {l : Prof} (h : ∀ k, k < l.length -> fitAt fr to n (l.getD k (0, 0)) = true) : fits fr to n l = true := by
  simp only [fits, List.all_eq_true]
  intro s hs
  obtain ⟨i, hi, rfl⟩ := getD_of_mem (0, 0) hs
  exact h i hi
set_option maxRecDepth 100000 in
theorem add_bad (l : Prof) (A : Option Addr) (c : Nat) (fr to n : Int) (w : World) (h : Sl w 2 A l.length (stC l)) (hm : l.length <= maxLen) (hbad : ¬ (goodB l = true /\ 0 <= fr /\ fr <= to /\ to <= 300)) :
    Calls Tryz.prog 112 #[.slice A l.length c, .int .i64 fr, .int .i64 to, .int .i64 n] w (RetPairF A (addL l fr to n) w) := by
  have HF := hd_ (show addL l fr to n = (l, false) by unfold addL; rw [if_neg hbad])
  by_cases h1 : goodB l = true
  · by_cases h2 : fr < 0
    · clear hbad
      go_enter Tryz.func112, Tryz.ntmps112
      go_wp2_with (go_at_call 110; refine (good_any l A c _ h hm).mono ?_; rintro e w1 ⟨rfl, hb1⟩)
      go_ret2
      exact ⟨A, c, by rw [HF.out]; rfl, by rw [HF.out]; exact h.below hb1, hb1, .inl rfl⟩
    · by_cases h3 : to < fr
      · clear hbad
        go_enter Tryz.func112, Tryz.ntmps112
        go_wp2_with (go_at_call 110; refine (good_any l A c _ h hm).mono ?_; rintro e w1 ⟨rfl, hb1⟩)
        go_ret2
        exact ⟨A, c, by rw [HF.out]; rfl, by rw [HF.out]; exact h.below hb1, hb1, .inl rfl⟩
      · have h4 : 300 < to := by
          rcases Int.lt_or_le 300 to with h | h
          · exact h
          · exact absurd ⟨h1, by omega, by omega, h⟩ hbad
        clear hbad
        go_enter Tryz.func112, Tryz.ntmps112
        go_wp2_with (go_at_call 110; refine (good_any l A c _ h hm).mono ?_; rintro e w1 ⟨rfl, hb1⟩)
        go_ret2
        exact ⟨A, c, by rw [HF.out]; rfl, by rw [HF.out]; exact h.below hb1, hb1, .inl rfl⟩
  · have h1 : goodB l = false := by simpa using h1
    clear hbad
    go_enter Tryz.func112, Tryz.ntmps112
    go_wp2_with (go_at_call 110; refine (good_any l A c _ h hm).mono ?_; rintro e w1 ⟨rfl, hb1⟩)
    go_ret2
    exact ⟨A, c, by rw [HF.out]; rfl, by rw [HF.out]; exact h.below hb1, hb1, .inl rfl⟩
theorem cells_set2 (l : Prof) : ∀ (k : Nat) (v : Int), k < l.length -> (stC l).set (k * 2 + 1) (.int .i64 v) = stC (l.set k ((l.getD k (0, 0)).1, v)) := by
  induction l with
  | nil => intro k s h; simp at h
  | cons q l ih =>
    intro k v h
    cases k with
    | zero => simp [stC]
    | succ k =>
      rw [show (k + 1) * 2 + 1 = (k * 2 + 1) + 1 + 1 by omega]
      simp only [stC, List.set_cons_succ, List.getD_cons_succ]
      rw [ih k v (by simpa using h)]
theorem owns_set2 {w : World} {base g c : Nat} {l : Prof} (h : Owns w base (some ⟨g, 0, none⟩) c l) (k : Nat) (v : Int) (hk : k < l.length) :
    Owns (w.setCell ⟨g, k * 2 + 1, none⟩ (.int .i64 v)) base (some ⟨g, 0, none⟩) c (l.set k ((l.getD k (0, 0)).1, v)) := by
  have h1 := (h.stored (k * 2 + 1) (.int .i64 v)).1
  rw [cells_set2 l k v hk] at h1
  unfold Owns
  rw [List.length_set]
  exact h1
theorem rng_split {l : Prof} {t : Int} (h : ∀ s ∈ l, 0 <= s.2 /\ s.2 <= 16) : ∀ s ∈ splitL l t, 0 <= s.2 /\ s.2 <= 16 := by
  unfold splitL; split
  · exact h
  · intro s hs
    rcases List.mem_append.1 hs with hs | hs
    · exact h s (List.mem_of_mem_take hs)
    · rcases List.mem_cons.1 hs with rfl | hs
      · simp only []
        by_cases hk : cnt l t - 1 < l.length
        · refine h (l.getD (cnt l t - 1) (0, 0)) ?_
          rw [List.getD_eq_getElem?_getD, List.getElem?_eq_getElem hk]; exact List.getElem_mem _
        · rw [List.getD_eq_getElem?_getD, List.getElem?_eq_none (by omega)]; simp
      · exact h s (List.mem_of_mem_drop hs)
theorem set_at (l : Prof) (k : Nat) (h : k < l.length) : l.set k (l.getD k (0, 0)) = l := by
  rw [List.getD_eq_getElem?_getD, List.getElem?_eq_getElem h]; simp
theorem good_rng {l : Prof} (h : Plain.Good l) : ∀ s ∈ l, 0 <= s.2 /\ s.2 <= 16 := by
  have := (goodB_iff l).2 h
  simp only [goodB, Bool.and_eq_true, List.all_eq_true, List.mem_range] at this
  intro s hs
  obtain ⟨i, hi, rfl⟩ := getD_of_mem (0, 0) hs
  have := this.2 i hi
  simp only [okAt, Bool.and_eq_true, decide_eq_true_eq] at this
  exact ⟨this.1.1.1, this.1.1.2⟩
set_option maxRecDepth 100000 in
theorem add_good (l : Prof) (b off c : Nat) (fr to n : Int) (w : World) (h : Sl w 2 (some ⟨b, off, none⟩) l.length (stC l)) (hg : Plain.Good l) (h0 : 0 <= fr) (h1 : fr <= to) (h2 : to <= 300) (hn : -16 <= n /\ n <= 16) :
    Calls Tryz.prog 112 #[.slice (some ⟨b, off, none⟩) l.length c, .int .i64 fr, .int .i64 to, .int .i64 n] w (RetPairF (some ⟨b, off, none⟩) (addL l fr to n) w) := by
  obtain ⟨hp, hlen⟩ := good_len hg
  have hgb := (goodB_iff l).2 hg
  obtain ⟨w1', _, _, _⟩ := splitL_good hg.weak h0
  obtain ⟨w2', _, _, _⟩ := splitL_good w1' (show 0 <= to by omega)
  have hr1 := rng_split (t := to) (rng_split (t := fr) (good_rng hg))
  have hl1 := split_len l fr
  have hl2 := split_len (splitL l fr) to
  have hp2 : 0 < (splitL (splitL l fr) to).length := by obtain ⟨x, r, e, _⟩ := w2'; rw [e]; simp
  have hm : l.length <= maxLen := by unfold maxLen; omega
  have hm16 : l.length * 16 <= 140737488355328 := by omega
  have ht : 0 <= to /\ to <= 300 := by omega
  have hf : 0 <= fr /\ fr <= 300 := by omega
  have hl0 : l.length <= 900 := by omega
  have hl3 : (splitL l fr).length <= 900 := by omega
  have HA := hd_ (show addL l fr to n = if fits fr to n (splitL (splitL l fr) to) = true then (tidyL ((splitL (splitL l fr) to).map (bump fr to n)), true) else (l, false) by
    unfold addL; rw [if_pos ⟨hgb, h0, h1, h2⟩])
  have HW := hd_ hg.weak
  have HW1 := hd_ w1'
  have HGB := hd_ hgb
  have d1 : decide (fr < 0) = false := by simp; omega
  have d2 : decide (to < fr) = false := by simp; omega
  have d3 : decide (300 < to) = false := by simp; omega
  clear w1' w2' hg hl1
  obtain ⟨n1, n2⟩ := hn
  go_enter Tryz.func112, Tryz.ntmps112
  go_wp2_with (first
    | (go_at_call 110; refine (good_any l _ c _ h hm).mono ?_; rintro e w1 ⟨rfl, hb1⟩; rw [HGB.out]; have h' := h.below hb1)
    | (go_at_call 135; refine (clone_any l b off c _ h' hm16).mono ?_; rintro e w2 ⟨A2, c2, rfl, ho2, hb2⟩; have hz2 := hb2.size))
  have hz1 := hb1.size
  refine (split_any l A2 c2 w1.heap.size fr w2 ho2 hz2 HW.out hl0 hf).mono ?_
  rintro e w3 ⟨A3, c3, rfl, ho3, hb3⟩
  have hz3 := hb3.size
  go_wp2_with fail
  refine (split_any (splitL l fr) A3 c3 w1.heap.size to w3 ho3 (by omega) HW1.out hl3 ht).mono ?_
  rintro e w4 ⟨A4, c4, rfl, ho4, hb4⟩
  have hz4 := hb4.size
  have hbel : Below w.heap.size w w4 := hb1.trans ((hb2.mono hz1).trans ((hb3.mono hz1).trans (hb4.mono hz1)))
  have hbel1 : Below w1.heap.size w1 w4 := hb2.trans (hb3.trans hb4)
  generalize splitL (splitL l fr) to = own at *
  obtain ⟨g, rfl, hbg, hgw, hlc, hcm, _⟩ := owns_at ho4 hp2
  have hown0 := hd_ (show Owns w4 w1.heap.size (some ⟨g, 0, none⟩) c4 (bumpTo fr to n own 0) by rw [bumpTo_zero]; exact ho4)
  have HR := hd_ hr1
  have HSL := hd_ h
  have hown : own.length <= 902 := by omega
  have HB1 := hd_ hb1
  clear hbel ho2 ho3 ho4 hb1 hb2 hb3 hb4 hl2 hr1 HW HW1 h h' hcm hlc
  go_wp2_with fail
  go_loopw [37] (fun i wr => ∃ k : Nat, k <= own.length /\ i = .int .i64 k /\ (∀ j, j < k -> fitAt fr to n (own.getD j (0, 0)) = true) /\ Owns wr w1.heap.size (some ⟨g, 0, none⟩) c4 (bumpTo fr to n own k) /\ Below w1.heap.size w1 wr) (fun i _ => own.length - (intOf i).toNat)
  case atStart => exact ⟨0, Nat.zero_le _, rfl, fun j hj => absurd hj (by omega), hown0.out, hbel1⟩
  case round =>
    obtain ⟨k, hk, rfl, hok, ho, hbw⟩ := hrel
    clear hown0 hbel1
    by_cases hlt : k < own.length
    · have hkb : k < (bumpTo fr to n own k).length := by rw [bumpTo_len]; exact hlt
      obtain ⟨c1, c2⟩ := owns_cells ho k hkb
      have fz2 := ho.frozenAt (k * 2 + 1)
      have HOK := hd_ hok
      have HO := hd_ ho
      have HS := hd_ (bumpTo_succ fr to n own k hlt)
      have HAT := hd_ (bumpTo_at fr to n own k hlt)
      rw [bumpTo_at fr to n own k hlt] at c1 c2
      have hrg := HR.out (own.getD k (0, 0)) (by rw [List.getD_eq_getElem?_getD, List.getElem?_eq_getElem hlt]; exact List.getElem_mem _)
      have HF := hd_ (fun h => fits_no (fr := fr) (to := to) (n := n) hlt h)
      have HM := hd_ (show fitAt fr to n (own.getD k (0, 0)) = true -> ∀ j, j < k + 1 -> fitAt fr to n (own.getD j (0, 0)) = true from fun h j hj => by
        by_cases e : j = k
        · rw [e]; exact h
        · exact HOK.out j (by omega))
      have HKB := hd_ hkb
      clear hok ho hkb
      have hbase : w1.heap.size <= wr.heap.size := hbw.size
      have HSET := hd_ (fun v => owns_set2 HO.out k v HKB.out)
      rw [HAT.out] at HSET
      have HSAME := hd_ (set_at (bumpTo fr to n own k) k HKB.out)
      rw [HAT.out] at HSAME
      clear HAT HOK
      generalize hq : own.getD k (0, 0) = q at *
      have HQ := hd_ hq
      clear hq
      obtain ⟨x, y⟩ := q
      dsimp only at c1 c2 hrg
      obtain ⟨y0, y1⟩ := hrg
      by_cases e1 : fr <= x
      · by_cases e2 : x < to
        · have HBUMP := hd_ (show bump fr to n (x, y) = (x, y + n) by unfold bump; rw [if_pos ⟨e1, e2⟩])
          by_cases e3 : y + n < 0
          · have HN := hd_ (HF.out (show fitAt fr to n (x, y) = false by simp [fitAt, e1, e2]; omega))
            go_wp2_with fail
            go_ret2
            have hE : addL l fr to n = (l, false) := by rw [HA.out, if_neg (by rw [HN.out]; simp)]
            have hB : Below w.heap.size w (wr.setCell ⟨g, k * 2 + 1, none⟩ (.int .i64 (y + n))) := (HB1.out.trans (hbw.mono hz1)).setCell (by show w.heap.size <= g; omega) _
            exact ⟨some ⟨b, off, none⟩, c, by rw [hE]; rfl, by rw [hE]; exact HSL.out.below hB, hB, .inl rfl⟩
          · have d4 : decide (y + n < 0) = false := by simpa using e3
            by_cases e4 : 16 < y + n
            · have HN := hd_ (HF.out (show fitAt fr to n (x, y) = false by simp [fitAt, e1, e2]; omega))
              go_wp2_with fail
              go_ret2
              have hE : addL l fr to n = (l, false) := by rw [HA.out, if_neg (by rw [HN.out]; simp)]
              have hB : Below w.heap.size w (wr.setCell ⟨g, k * 2 + 1, none⟩ (.int .i64 (y + n))) := (HB1.out.trans (hbw.mono hz1)).setCell (by show w.heap.size <= g; omega) _
              exact ⟨some ⟨b, off, none⟩, c, by rw [hE]; rfl, by rw [hE]; exact HSL.out.below hB, hB, .inl rfl⟩
            · have HY := hd_ (HM.out (show fitAt fr to n (x, y) = true by simp [fitAt]; omega))
              have HO1 := hd_ (HSET.out (y + n))
              go_wp2_with fail
              go_roundw
              case rel => exact ⟨k + 1, hlt, by go_num, HY.out, by rw [HS.out, HBUMP.out]; exact HO1.out, hbw.setCell hbg _⟩
              case measure => simp [intOf] <;> omega
        · have HBUMP := hd_ (show bump fr to n (x, y) = (x, y) by unfold bump; rw [if_neg (fun h => e2 h.2)])
          have HY := hd_ (HM.out (show fitAt fr to n (x, y) = true by simp [fitAt]; omega))
          have HO2 := hd_ (show Owns wr w1.heap.size (some ⟨g, 0, none⟩) c4 (bumpTo fr to n own (k + 1)) by rw [HS.out, HBUMP.out, HSAME.out]; exact HO.out)
          go_wp2_with fail
          go_roundw
          case rel => exact ⟨k + 1, hlt, by go_num, HY.out, HO2.out, hbw⟩
          case measure => simp [intOf] <;> omega
      · have HBUMP := hd_ (show bump fr to n (x, y) = (x, y) by unfold bump; rw [if_neg (fun h => e1 h.1)])
        have HY := hd_ (HM.out (show fitAt fr to n (x, y) = true by simp [fitAt]; omega))
        have HO2 := hd_ (show Owns wr w1.heap.size (some ⟨g, 0, none⟩) c4 (bumpTo fr to n own (k + 1)) by rw [HS.out, HBUMP.out, HSAME.out]; exact HO.out)
        go_wp2_with fail
        go_roundw
        case rel => exact ⟨k + 1, hlt, by go_num, HY.out, HO2.out, hbw⟩
        case measure => simp [intOf] <;> omega
    · obtain rfl : k = own.length := by omega
      rw [bumpTo_all] at ho
      have hml : (own.map (bump fr to n)).length = own.length := by simp
      have HE := hd_ (show addL l fr to n = (tidyL (own.map (bump fr to n)), true) by rw [HA.out, if_pos (fits_yes hok)])
      have HO := hd_ ho
      have HML := hd_ hml
      have hzr := hbw.size
      clear ho hok hml
      go_wp2_with fail
      have htd := tidy_any (own.map (bump fr to n)) g c4 w1.heap.size wr HO.out hzr (by rw [HML.out]; omega) (by rw [HML.out]; omega)
      rw [HML.out] at htd
      refine htd.mono ?_
      rintro e w5 ⟨A5, c5, rfl, ho5, hb5⟩
      go_wp2_with fail
      go_ret2
      have hB : Below w.heap.size w w5 := (HB1.out.trans (hbw.mono hz1)).trans (hb5.mono hz1)
      exact ⟨A5, c5, by rw [HE.out]; rfl, by rw [HE.out]; exact owns_sl ho5, hB, .inr ((fr_own ho5).mono hz1)⟩
theorem add_any (l : Prof) (A : Option Addr) (c : Nat) (fr to n : Int) (w : World) (h : Sl w 2 A l.length (stC l)) (hm : l.length <= maxLen) (hn : -16 <= n /\ n <= 16) :
    Calls Tryz.prog 112 #[.slice A l.length c, .int .i64 fr, .int .i64 to, .int .i64 n] w (RetPairF A (addL l fr to n) w) := by
  by_cases hg : goodB l = true /\ 0 <= fr /\ fr <= to /\ to <= 300
  · obtain ⟨g1, g2, g3, g4⟩ := hg
    have hgood := (goodB_iff l).1 g1
    obtain ⟨hp, _⟩ := good_len hgood
    obtain ⟨b, off, rfl, _⟩ := h.2 (by omega)
    exact add_good l b off c fr to n w h hgood g2 g3 g4 hn
  · exact add_bad l A c fr to n w h hm hg
theorem take_fr (l : Prof) (A : Option Addr) (c : Nat) (fr to n : Int) (w : World) (h : Sl w 2 A l.length (stC l)) (hm : l.length <= maxLen) :
    Calls Tryz.prog 81 #[.slice A l.length c, .int .i64 fr, .int .i64 to, .int .i64 n] w (RetPairF A (takeL l fr to n) w) := by
  by_cases hn : 0 <= n /\ n <= 16
  · have HF := hd_ (show takeL l fr to n = addL l fr to (-n) by unfold takeL; rw [if_pos hn])
    obtain ⟨n1, n2⟩ := hn
    have HB := hd_ (show (decide (0 <= n) && decide (n <= 16)) = true by simp; omega)
    go_enter Tryz.func81, Tryz.ntmps81
    go_wp2_with (first
      | (go_at_call 111; refine (small_any n _).mono ?_; rintro e w1 ⟨rfl, rfl⟩; rw [HB.out])
      | (go_at_call 112; refine (add_any l A c fr to (-n) _ h hm ⟨by omega, by omega⟩).mono ?_; rintro e w1 ⟨A1, c1, rfl, h1, h2, h3⟩))
    go_ret2
    exact ⟨A1, c1, by rw [HF.out]; rfl, by rw [HF.out]; exact h1, h2, h3⟩
  · have HF := hd_ (show takeL l fr to n = (l, false) by unfold takeL; rw [if_neg hn])
    have HB := hd_ (show (decide (0 <= n) && decide (n <= 16)) = false by rw [Bool.and_eq_false_iff]; simp; omega)
    clear hn
    go_enter Tryz.func81, Tryz.ntmps81
    go_wp2_with (go_at_call 111; refine (small_any n _).mono ?_; rintro e w1 ⟨rfl, rfl⟩; rw [HB.out])
    go_ret2
    exact ⟨A, c, by rw [HF.out]; rfl, by rw [HF.out]; exact h, Below.refl _ _, .inl rfl⟩
theorem nextAt_drop (l : Prof) (k : Nat) (h : k < l.length) : nextAt (l.drop (k + 1)) = if k + 1 < l.length then (l.getD (k + 1) (0, 0)).1 else 300 := by
  by_cases h1 : k + 1 < l.length
  · rw [if_pos h1, List.drop_eq_getElem_cons h1]
    simp only [nextAt]; rw [List.getD_eq_getElem?_getD, List.getElem?_eq_getElem h1]; rfl
  · rw [if_neg h1, List.drop_eq_nil_of_le (by omega)]; rfl
theorem fitGo_drop (l : Prof) (long n u : Int) (k : Nat) (h : k < l.length) :
    fitGo long n u (l.drop k) = if nextAt (l.drop (k + 1)) <= u then (if 300 - long + 1 <= u then -1 else fitGo long n u (l.drop (k + 1)))
      else if (l.getD k (0, 0)).2 < n then (if 300 - long + 1 <= nextAt (l.drop (k + 1)) then -1 else fitGo long n (nextAt (l.drop (k + 1))) (l.drop (k + 1)))
      else if u + long <= nextAt (l.drop (k + 1)) then u else if 300 - long + 1 <= u then -1 else fitGo long n u (l.drop (k + 1)) := by
  rw [List.drop_eq_getElem_cons h, List.getD_eq_getElem?_getD, List.getElem?_eq_getElem h]
  rfl
theorem fit_any (l : Prof) (A : Option Addr) (c : Nat) (fr long n : Int) (w : World) (h : Sl w 2 A l.length (stC l)) (hm : l.length <= maxLen) :
    Calls Tryz.prog 79 #[.slice A l.length c, .int .i64 fr, .int .i64 long, .int .i64 n] w fun e w' => e = .returned (.int .i64 (fitL l fr long n)) /\ Below w.heap.size w w' := by
  by_cases hg : goodB l = true
  · by_cases h1 : fr < 0
    · have HF := hd_ (show fitL l fr long n = -1 by unfold fitL; rw [if_neg (by omega)])
      go_enter Tryz.func79, Tryz.ntmps79
      go_wp2_with (go_at_call 110; refine (good_any l A c _ h hm).mono ?_; rintro e w1 ⟨rfl, hb1⟩)
      go_ret
      exact ⟨by rw [HF.out]; rfl, hb1⟩
    · by_cases h2 : long < 1
      · have HF := hd_ (show fitL l fr long n = -1 by unfold fitL; rw [if_neg (by omega)])
        go_enter Tryz.func79, Tryz.ntmps79
        go_wp2_with (go_at_call 110; refine (good_any l A c _ h hm).mono ?_; rintro e w1 ⟨rfl, hb1⟩)
        go_ret
        exact ⟨by rw [HF.out]; rfl, hb1⟩
      · by_cases h3 : 300 < long
        · have HF := hd_ (show fitL l fr long n = -1 by unfold fitL; rw [if_neg (by omega)])
          go_enter Tryz.func79, Tryz.ntmps79
          go_wp2_with (go_at_call 110; refine (good_any l A c _ h hm).mono ?_; rintro e w1 ⟨rfl, hb1⟩)
          go_ret
          exact ⟨by rw [HF.out]; rfl, hb1⟩
        · by_cases h4 : n < 0
          · have HF := hd_ (show fitL l fr long n = -1 by unfold fitL; rw [if_neg (by omega)])
            go_enter Tryz.func79, Tryz.ntmps79
            go_wp2_with (go_at_call 110; refine (good_any l A c _ h hm).mono ?_; rintro e w1 ⟨rfl, hb1⟩)
            go_ret
            exact ⟨by rw [HF.out]; rfl, hb1⟩
          · have HF := hd_ (show fitL l fr long n = fitGo long n fr l by unfold fitL; rw [if_pos ⟨hg, by omega, by omega, by omega, by omega⟩])
            have hgood := (goodB_iff l).1 hg
            have HR := hd_ hgood.weak.rises
            obtain ⟨hp, hlen⟩ := good_len hgood
            have HG := hd_ hg
            clear hgood hg hm
            have hm : l.length <= maxLen := by unfold maxLen; omega
            have d1 : decide (fr < 0) = false := by simp; omega
            have d2 : decide (long < 1) = false := by simp; omega
            have d3 : decide (300 < long) = false := by simp; omega
            have d4 : decide (n < 0) = false := by simp; omega
            go_enter Tryz.func79, Tryz.ntmps79
            go_wp2_with (go_at_call 110; refine (good_any l A c _ h hm).mono ?_; rintro e w1 ⟨rfl, hb1⟩; rw [HG.out])
            go_loopw [9, 35] (fun v i wr => ∃ (k : Nat) (u : Int), k <= l.length /\ i = .int .i64 k /\ v = .int .i64 u /\ 0 <= u /\ fitGo long n u (l.drop k) = fitGo long n fr l /\ Below w.heap.size w wr) (fun _ i _ => l.length - (intOf i).toNat)
            case atStart => exact ⟨0, fr, Nat.zero_le _, rfl, rfl, by omega, rfl, hb1⟩
            case round =>
              obtain ⟨k, u, hk, rfl, rfl, hu, hrel, hb⟩ := hrel
              clear hb1
              by_cases hlt : k < l.length
              · have hsl := h.below hb
                obtain ⟨b, off, rfl, hbl, hcells⟩ := steps_at hsl (by omega)
                obtain ⟨c1, c2⟩ := hcells k hlt
                have HGO := hd_ (fitGo_drop l long n u k hlt)
                rw [nextAt_drop l k hlt] at HGO
                have HREL := hd_ hrel
                have hw1 : IntKind.i64.wrap ((k : Int) + 1) = (k : Int) + 1 := IntWalk.i64_in _ (by omega)
                by_cases hn1 : k + 1 < l.length
                · obtain ⟨c3, _⟩ := hcells (k + 1) hn1
                  have hz := HR.out.bd (k + 1) hn1
                  rw [if_pos hn1] at HGO
                  clear hcells hsl h hrel
                  generalize (l.getD k (0, 0)).1 = x at c1
                  generalize (l.getD k (0, 0)).2 = y at c2 HGO
                  generalize (l.getD (k + 1) (0, 0)).1 = z at c3 hz HGO
                  obtain ⟨z0, z1⟩ := hz
                  by_cases q1 : z <= u
                  · by_cases q2 : 300 - long + 1 <= u
                    · have HX := hd_ (show fitGo long n u (l.drop k) = -1 by rw [HGO.out, if_pos q1, if_pos q2])
                      go_wp2_with fail
                      go_ret
                      exact ⟨by rw [HF.out, <- HREL.out, HX.out]; rfl, hb.alloc hb.size _⟩
                    · have HX := hd_ (show fitGo long n u (l.drop (k + 1)) = fitGo long n fr l by rw [<- HREL.out, HGO.out, if_pos q1, if_neg q2])
                      go_wp2_with fail
                      go_roundw
                      case rel => exact ⟨k + 1, u, hlt, by go_num, rfl, by omega, HX.out, hb.alloc hb.size _⟩
                      case measure => simp [intOf] <;> omega
                  · by_cases q3 : y < n
                    · by_cases q2 : 300 - long + 1 <= z
                      · have HX := hd_ (show fitGo long n u (l.drop k) = -1 by rw [HGO.out, if_neg q1, if_pos q3, if_pos q2])
                        go_wp2_with fail
                        go_ret
                        exact ⟨by rw [HF.out, <- HREL.out, HX.out]; rfl, hb.alloc hb.size _⟩
                      · have HX := hd_ (show fitGo long n z (l.drop (k + 1)) = fitGo long n fr l by rw [<- HREL.out, HGO.out, if_neg q1, if_pos q3, if_neg q2])
                        go_wp2_with fail
                        go_roundw
                        case rel => exact ⟨k + 1, z, hlt, by go_num, rfl, by omega, HX.out, hb.alloc hb.size _⟩
                        case measure => simp [intOf] <;> omega
                    · by_cases q4 : u + long <= z
                      · have HX := hd_ (show fitGo long n u (l.drop k) = u by rw [HGO.out, if_neg q1, if_neg q3, if_pos q4])
                        go_wp2_with fail
                        go_ret
                        exact ⟨by rw [HF.out, <- HREL.out, HX.out]; rfl, hb.alloc hb.size _⟩
                      · by_cases q2 : 300 - long + 1 <= u
                        · have HX := hd_ (show fitGo long n u (l.drop k) = -1 by rw [HGO.out, if_neg q1, if_neg q3, if_neg q4, if_pos q2])
                          go_wp2_with fail
                          go_ret
                          exact ⟨by rw [HF.out, <- HREL.out, HX.out]; rfl, hb.alloc hb.size _⟩
                        · have HX := hd_ (show fitGo long n u (l.drop (k + 1)) = fitGo long n fr l by rw [<- HREL.out, HGO.out, if_neg q1, if_neg q3, if_neg q4, if_neg q2])
                          go_wp2_with fail
                          go_roundw
                          case rel => exact ⟨k + 1, u, hlt, by go_num, rfl, by omega, HX.out, hb.alloc hb.size _⟩
                          case measure => simp [intOf] <;> omega
                · rw [if_neg hn1] at HGO
                  clear hcells hsl h hrel
                  generalize (l.getD k (0, 0)).1 = x at c1
                  generalize (l.getD k (0, 0)).2 = y at c2 HGO
                  by_cases q1 : 300 <= u
                  · by_cases q2 : 300 - long + 1 <= u
                    · have HX := hd_ (show fitGo long n u (l.drop k) = -1 by rw [HGO.out, if_pos q1, if_pos q2])
                      go_wp2_with fail
                      go_ret
                      exact ⟨by rw [HF.out, <- HREL.out, HX.out]; rfl, hb.alloc hb.size _⟩
                    · exfalso; omega
                  · by_cases q3 : y < n
                    · by_cases q2 : 300 - long + 1 <= 300
                      · have HX := hd_ (show fitGo long n u (l.drop k) = -1 by rw [HGO.out, if_neg q1, if_pos q3, if_pos q2])
                        go_wp2_with fail
                        go_ret
                        exact ⟨by rw [HF.out, <- HREL.out, HX.out]; rfl, hb.alloc hb.size _⟩
                      · exfalso; omega
                    · by_cases q4 : u + long <= 300
                      · have HX := hd_ (show fitGo long n u (l.drop k) = u by rw [HGO.out, if_neg q1, if_neg q3, if_pos q4])
                        go_wp2_with fail
                        go_ret
                        exact ⟨by rw [HF.out, <- HREL.out, HX.out]; rfl, hb.alloc hb.size _⟩
                      · by_cases q2 : 300 - long + 1 <= u
                        · have HX := hd_ (show fitGo long n u (l.drop k) = -1 by rw [HGO.out, if_neg q1, if_neg q3, if_neg q4, if_pos q2])
                          go_wp2_with fail
                          go_ret
                          exact ⟨by rw [HF.out, <- HREL.out, HX.out]; rfl, hb.alloc hb.size _⟩
                        · exfalso; omega
              · obtain rfl : k = l.length := by omega
                rw [List.drop_length] at hrel
                have HREL := hd_ hrel
                clear hrel
                go_wp2_with fail
                go_ret
                exact ⟨by rw [HF.out, <- HREL.out]; rfl, hb⟩
  · have hg : goodB l = false := by simpa using hg
    have HF := hd_ (show fitL l fr long n = -1 by unfold fitL; rw [if_neg (by rw [hg]; simp)])
    go_enter Tryz.func79, Tryz.ntmps79
    go_wp2_with (go_at_call 110; refine (good_any l A c _ h hm).mono ?_; rintro e w1 ⟨rfl, hb1⟩)
    go_ret
    exact ⟨by rw [HF.out]; rfl, hb1⟩
end Go.Proofs.YtifmdkcpbajdcabGreatDoor
