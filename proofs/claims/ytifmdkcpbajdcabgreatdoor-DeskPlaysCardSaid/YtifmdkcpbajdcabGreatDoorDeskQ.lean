/- Words: a desk, and its state, in memory; a plan that is mended, said shortly. -/
import Derived.Test.YtifmdkcpbajdcabGreatDoorMendP
import Derived.Test.YtifmdkcpbajdcabGreatDoorTellV
import Derived.Test.YtifmdkcpbajdcabGreatDoorDueQ
import Derived.Test.YtifmdkcpbajdcabGreatDoorPortA
import Derived.Test.YtifmdkcpbajdcabGreatDoorPlans
import Derived.Deep.MidRow
import Derived.Deep.DeepCutAuto
import Derived.Test.YtifmdkcpbajdcabGreatDoorParse
set_option linter.unusedVariables false
set_option linter.unusedSimpArgs false
set_option maxHeartbeats 16000000
namespace Go.Proofs.YtifmdkcpbajdcabGreatDoor
open Go.RowKit Go.Proofs Plain
theorem state_size : (Tryz.prog.info? 65).map (·.size) = some 17 := by kernel_rfl
theorem range_of_block {w : World} {g : Nat} {cs : Array Value} {T : TypeId} {fr : Nat × Nat} (h : w.heap[g]? = some (.cells cs T fr)) (n : Nat) : w.rangeAt g 0 (cs.toList.take n) := fun j v hv => by
  rw [Nat.zero_add, cell_of_row w g j _ _ _ h]
  rw [List.getElem?_take] at hv
  split at hv
  · simpa using hv
  · cases hv
section
variable {ops : Array Oper} {rest : List Oper} {o : Oper} {a : Act} {w : World} {Q : Exit -> Act -> World -> Prop}
theorem wpList_load_in {x : Operand} {g : Nat} {cs : Array Value} {T : TypeId} {v0 v1 v2 v3 v4 v5 v6 v7 v8 v9 v10 v11 v12 v13 v14 v15 : Value} (hg : o.guard = none) (ho : o.op = .load 36 x)
    (hx : a.eval x = .pointer (some ⟨g, 0, none⟩)) (hf : w.heap[g]? = some (.cells cs T (0, 0))) (hc : cs.toList.take 16 = [v0, v1, v2, v3, v4, v5, v6, v7, v8, v9, v10, v11, v12, v13, v14, v15])
    (h : wpList Tryz.prog ops Q rest (a.put o.dst (.agg #[v0, v1, v2, v3, v4, v5, v6, v7, v8, v9, v10, v11, v12, v13, v14, v15])) w) : wpList Tryz.prog ops Q (o :: rest) a w := by
  have hr := range_of_block hf 16
  rw [hc] at hr
  exact wpList_load_mid hg 36 x ho g 0 hx _ _ hr Tryz.underlying36 rfl port_size h
theorem wpList_load_state {x : Operand} {g : Nat} {cs : Array Value} {T : TypeId} {v0 v1 v2 v3 v4 v5 v6 v7 v8 v9 v10 v11 v12 v13 v14 v15 v16 : Value} (hg : o.guard = none) (ho : o.op = .load 65 x)
    (hx : a.eval x = .pointer (some ⟨g, 0, none⟩)) (hf : w.heap[g]? = some (.cells cs T (0, 0))) (hc : cs.toList.take 17 = [v0, v1, v2, v3, v4, v5, v6, v7, v8, v9, v10, v11, v12, v13, v14, v15, v16])
    (h : wpList Tryz.prog ops Q rest (a.put o.dst (.agg #[v0, v1, v2, v3, v4, v5, v6, v7, v8, v9, v10, v11, v12, v13, v14, v15, v16])) w) : wpList Tryz.prog ops Q (o :: rest) a w := by
  have hr := range_of_block hf 17
  rw [hc] at hr
  exact wpList_load_mid hg 65 x ho g 0 hx _ _ hr Tryz.underlying65 rfl state_size h
theorem wpList_store_box {x y : Operand} {g : Nat} {us vs : Array Value} (hg : o.guard = none) (ho : o.op = .store 36 x y)
    (hx : a.eval x = .pointer (some ⟨g, 0, none⟩)) (hy : a.eval y = .agg us) (hf : BoxAt w g vs) (hv : vs.size = 16) (hu : us.size = 16) (h1 : us.all (·.oneCell') = true)
    (h : ∀ w', BoxAt w' g us -> OneRow g w w' -> wpList Tryz.prog ops Q rest (a.put o.dst undef) w') : wpList Tryz.prog ops Q (o :: rest) a w :=
  have h := h _ (setRow_heap w g _ us _ _ hf) (OneRow.of_row w g _)
  wpList_store_row hg _ x y ho g _ hx hy _ _ hf (by rw [hu]; exact port_size) (by rw [hv, hu]) h1 h
end
theorem port_vs1 (p : Port) (A : Option Addr) (c : Nat) : ∃ v0 v1 v2 v3 v4 v5 v6 v7 v8 v9 v10 v11 v12 v13 v14 v15 : Value, portA p A c = #[v0, v1, v2, v3, v4, v5, v6, v7, v8, v9, v10, v11, v12, v13, v14, v15] /\
    (#[v0, v1, v2, v3, v4, v5, v6, v7, v8, v9, v10, v11, v12, v13, v14, v15] : Array Value).all (·.oneCell') = true :=
  ⟨_, _, _, _, _, _, _, _, _, _, _, _, _, _, _, _, rfl, portA_one p A c⟩
def RetMP (l : List Int) (w : World) (e : Ending) (w' : World) : Prop :=
  ∃ A c n, e = .returned (.tuple #[.slice A l.length c, .int .i64 n]) /\ Sl w' 1 A l.length (l.map (Value.int .i64)) /\ Below w.heap.size w w' /\ Fr w.heap.size A
theorem mend_plan (was now : Port) (A1 A2 : Option Addr) (c1 c2 : Nat) (Ap : Option Addr) (cp : Nat) (w : World) (hwas : PGood was) (hnow : PGood now)
    (hin1 : InP w was A1) (hin2 : InP w now A2) (hpl : Sl w 1 Ap (thP was).length ((thP was).map (Value.int .i64))) :
    Calls Tryz.prog 52 #[.agg (portA was A1 c1), .agg (portA now A2 c2), .slice Ap (thP was).length cp] w (RetMP (thP now) w) := by
  refine (mend_walk was now A1 A2 c1 c2 (thP was) Ap cp w hwas hnow (thePlan_is hwas) hin1 hin2 hpl fun w' h => ranked_any now A2 c2 w' hnow h).mono ?_
  rintro e w' ⟨A, c, rfl, h1, h2, h3⟩
  have he : (mendL was now (thP was) (rankL now)).1 = thP now := by
    rw [(mend_spec hwas hnow (thePlan_is hwas) (rankL_is hnow)).1, planL_the hnow (rankL_is hnow)]
  rw [he] at h1
  exact ⟨A, c, (mendL was now (thP was) (rankL now)).2, by rw [he], h1, h2, h3⟩
theorem next_same {p : Port} (h : PGood p) (hw : (whoL p (thP p)).length = 0) : thP (nextL p) = thP p := by
  have hw := List.eq_nil_of_length_eq_zero hw
  rw [(next_plan h).2.1]
  have hd : ∀ i, i < (thP p).length -> isDue p (thP p) i = false := fun i hi => by
    cases hq : isDue p (thP p) i with
    | false => rfl
    | true =>
      rw [plan_len h] at hi
      have : i ∈ whoL p (thP p) := List.mem_filter.2 ⟨List.mem_range.2 hi, hq⟩
      rw [hw] at this; cases this
  refine List.ext_getElem (by simp [notDue]) fun i h1 h2 => ?_
  simp only [notDue, List.getElem_map, List.getElem_range, hd i h2]
  rw [List.getD_eq_getElem?_getD, List.getElem?_eq_getElem h2]; rfl
def RetNext (q : Port) (w : World) (e : Ending) (w' : World) : Prop :=
  ∃ v0 v1 v2 v3 v4 v5 v6 v7 v8 v9 v10 v11 v12 v13 v14 v15 A c B cB, e = .returned (.agg #[v0, v1, v2, v3, v4, v5, v6, v7, v8, v9, v10, v11, v12, v13, v14, v15, .slice B (thP (nextL q)).length cB]) /\
    portA (nextL q) A c = #[v0, v1, v2, v3, v4, v5, v6, v7, v8, v9, v10, v11, v12, v13, v14, v15] /\
    InP w' (nextL q) A /\ Sl w' 1 B (thP (nextL q)).length ((thP (nextL q)).map (Value.int .i64)) /\ Below w.heap.size w w' /\ Fr w.heap.size A /\ Fr w.heap.size B
end Go.Proofs.YtifmdkcpbajdcabGreatDoor
namespace Go.Proofs.YtifmdkcpbajdcabGreatDoor
open Go.RowKit Go.Proofs Plain
open Go.Act renaming put -> aP, eval -> aE
open Go.Lib renaming hid -> hd_
def StBox (w : World) (g : Nat) (vs : Array Value) : Prop := w.heap[g]? = some (.cells vs 65 (0, 0))
section
variable {w w' : World} {g n : Nat} {vs us : Array Value}
theorem StBox.lt (h : StBox w g vs) : g < w.heap.size := (Array.getElem?_eq_some_iff.1 h).1
theorem StBox.below (h : StBox w g vs) (hb : Below n w w') (hn : g < n) : StBox w' g vs := (hb.block g hn).trans h
theorem StBox.alloc (h : StBox w g vs) (o : Obj) : StBox (w.alloc o) g vs := (Below.heap_alloc w o g h.lt).trans h
theorem StBox.one (h : StBox w g vs) {k : Nat} (hr : OneRow k w w') (hk : g ≠ k) : StBox w' g vs := (hr.block g hk).trans h
theorem BoxAt.one (h : BoxAt w g vs) {k : Nat} (hr : OneRow k w w') (hk : g ≠ k) : BoxAt w' g vs := (hr.block g hk).trans h
end
section
variable {ops : Array Oper} {rest : List Oper} {o : Oper} {a : Act} {w : World} {Q : Exit -> Act -> World -> Prop}
theorem wpList_store_state {x y : Operand} {g : Nat} {us vs : Array Value} (hg : o.guard = none) (ho : o.op = .store 65 x y)
    (hx : a.eval x = .pointer (some ⟨g, 0, none⟩)) (hy : a.eval y = .agg us) (hf : StBox w g vs) (hv : vs.size = 17) (hu : us.size = 17) (h1 : us.all (·.oneCell') = true)
    (h : ∀ w', StBox w' g us -> OneRow g w w' -> wpList Tryz.prog ops Q rest (a.put o.dst undef) w') : wpList Tryz.prog ops Q (o :: rest) a w :=
  have h := h _ (setRow_heap w g _ us _ _ hf) (OneRow.of_row w g _)
  wpList_store_row hg _ x y ho g _ hx hy _ _ hf (by rw [hu]; exact state_size) (by rw [hv, hu]) h1 h
end
theorem sl_off {w w' : World} {size n g : Nat} {A : Option Addr} {xs : List Value} (h : Sl w size A n xs) (hr : OneRow g w w') (hA : Fr (g + 1) A) : Sl w' size A n xs :=
  ⟨h.1, fun hn => by
    obtain ⟨b, off, e, hc⟩ := h.2 hn
    have := hA _ e
    exact ⟨b, off, e, fun j hj => (hr.cell b (off + j) (by simp at this; omega)).trans (hc j hj)⟩⟩
theorem all_snoc16 {v0 v1 v2 v3 v4 v5 v6 v7 v8 v9 v10 v11 v12 v13 v14 v15 x : Value} (h : (#[v0, v1, v2, v3, v4, v5, v6, v7, v8, v9, v10, v11, v12, v13, v14, v15] : Array Value).all (·.oneCell') = true) (hx : x.oneCell' = true) :
    (#[v0, v1, v2, v3, v4, v5, v6, v7, v8, v9, v10, v11, v12, v13, v14, v15, x] : Array Value).all (·.oneCell') = true := by
  rw [show (#[v0, v1, v2, v3, v4, v5, v6, v7, v8, v9, v10, v11, v12, v13, v14, v15, x] : Array Value) = #[v0, v1, v2, v3, v4, v5, v6, v7, v8, v9, v10, v11, v12, v13, v14, v15].push x from rfl, Array.all_push, h, hx]; rfl
set_option maxRecDepth 100000 in
theorem next_any (p q : Port) (A1 A2 : Option Addr) (c1 c2 : Nat) (B : Option Addr) (cB : Nat) (w : World) (hp : PGood p) (hq : PGood q) (hi1 : InP w p A1) (hi2 : InP w q A2)
    (hB : Sl w 1 B (thP p).length ((thP p).map (Value.int .i64))) {v0 v1 v2 v3 v4 v5 v6 v7 v8 v9 v10 v11 v12 v13 v14 v15 : Value} (hv : portA p A1 c1 = #[v0, v1, v2, v3, v4, v5, v6, v7, v8, v9, v10, v11, v12, v13, v14, v15])
    {u0 u1 u2 u3 u4 u5 u6 u7 u8 u9 u10 u11 u12 u13 u14 u15 : Value} (hu : portA q A2 c2 = #[u0, u1, u2, u3, u4, u5, u6, u7, u8, u9, u10, u11, u12, u13, u14, u15]) :
    Calls Tryz.prog 31 #[.agg #[v0, v1, v2, v3, v4, v5, v6, v7, v8, v9, v10, v11, v12, v13, v14, v15, .slice B (thP p).length cB], .agg #[u0, u1, u2, u3, u4, u5, u6, u7, u8, u9, u10, u11, u12, u13, u14, u15]] w (RetNext q w) := by
  have hM1 := fun w h1 h2 h3 => mend_plan p q A1 A2 c1 c2 B cB w hp hq h1 h2 h3
  have hDU := fun B' d' w h1 h2 h3 => due_fr q A2 c2 (thP q) B' d' w (fair_wf hq.toFair) (by have := hq.len; omega) h1 h2 h3
  have hM2 := fun (A3 : Option Addr) (c3 : Nat) (B' : Option Addr) (d' : Nat) w h1 h2 h3 => mend_plan q (nextL q) A2 A3 c2 c3 B' d' w hq (next_plan hq).1 h1 h2 h3
  rw [hv, hu] at hM1
  rw [hu] at hDU hM2
  have HM1 := hd_ hM1
  have HDU := hd_ hDU
  have HM2 := hd_ hM2
  have HPL := hd_ (show (thP q).length <= 100000 by rw [plan_len hq]; have := hq.len; omega)
  have HNS := hd_ (fun h => next_same hq h)
  have HQL := hd_ (show q.ships.length <= 100000 by have := hq.len; omega)
  clear hM1 hDU hM2 hp hq hv hu
  go_enter Tryz.func31, Tryz.ntmps31
  go_wp2_with fail
  obtain ⟨zs, hzs⟩ : ∃ zs : Array Value, zs = #[.int .i64 0, .slice none 0 0, .int .i64 0, .int .i64 0, .int .i64 0, .int .i64 0, .int .i64 0, .int .i64 0, .int .i64 0, .int .i64 0, .int .i64 0, .int .i64 0, .int .i64 0, .int .i64 0, .int .i64 0, .int .i64 0, .slice none 0 0] := ⟨_, rfl⟩
  obtain ⟨W0, hW0⟩ : ∃ W0, W0 = ((w.alloc (.cells #[v0, v1, v2, v3, v4, v5, v6, v7, v8, v9, v10, v11, v12, v13, v14, v15, .slice B (thP p).length cB] 65)).alloc (.cells #[u0, u1, u2, u3, u4, u5, u6, u7, u8, u9, u10, u11, u12, u13, u14, u15] 36)).alloc (.cells zs 65) := ⟨_, rfl⟩
  have hB0 : Below w.heap.size w W0 := by rw [hW0]; exact (((Below.refl _ _).alloc (Nat.le_refl _) _).alloc (by simp) _).alloc (by simp; omega) _
  have h3 : BoxAt W0 (w.heap.size + 1) #[u0, u1, u2, u3, u4, u5, u6, u7, u8, u9, u10, u11, u12, u13, u14, u15] := by
    rw [hW0]
    have h := BoxAt.new (w.alloc (.cells #[v0, v1, v2, v3, v4, v5, v6, v7, v8, v9, v10, v11, v12, v13, v14, v15, .slice B (thP p).length cB] 65)) #[u0, u1, u2, u3, u4, u5, u6, u7, u8, u9, u10, u11, u12, u13, u14, u15]
    simp only [World.size_alloc] at h
    exact h.alloc _
  have h4 : StBox W0 (w.heap.size + 2) zs := by
    rw [hW0]
    have h : StBox _ _ zs := heap_alloc_new ((w.alloc (.cells #[v0, v1, v2, v3, v4, v5, v6, v7, v8, v9, v10, v11, v12, v13, v14, v15, .slice B (thP p).length cB] 65)).alloc (.cells #[u0, u1, u2, u3, u4, u5, u6, u7, u8, u9, u10, u11, u12, u13, u14, u15] 36)) (.cells zs 65)
    simpa using h
  have hz0 : W0.heap.size = w.heap.size + 3 := by rw [hW0]; simp
  have hzz : zs.size = 17 := by rw [hzs]; rfl
  have hi1' : InP W0 p A1 := Sl.below hi1 hB0
  have hi2' : InP W0 q A2 := Sl.below hi2 hB0
  have hBB := Sl.below hB hB0
  rw [hzs] at hW0
  rw [<- hW0]
  clear hW0 hzs hi1 hi2 hB
  refine (HM1.out _ hi1' hi2' hBB).mono ?_
  rintro e w1 ⟨A3, c3, n3, rfl, hs1, hb1, hr1⟩
  have hB1 := bG_ hB0 hb1
  have h31 := h3.below hb1 h3.lt
  have h41 := h4.below hb1 h4.lt
  have hi21 : InP w1 q A2 := Sl.below hi2' hb1
  have hz1 := hb1.size
  clear hB0 h3 h4 hi1' hi2' hBB hb1 HM1
  go_wp2_with (refine wpList_load_box rfl rfl (by first | rfl | simp [aE, aP]) h31 rfl ?_)
  refine (HDU.out A3 c3 _ hi21 HPL.out hs1).mono ?_
  rintro e w2 ⟨A4, c4, B4, d4, rfl, hi4, hw4, hb2, hr2⟩
  obtain ⟨z0, z1, z2, z3, z4, z5, z6, z7, z8, z9, z10, z11, z12, z13, z14, z15, hz, hzo⟩ := port_vs1 (dueL q (thP q)) A4 c4
  have HM2' := HM2.out A4 c4 A3 c3
  change ∀ w, _ -> InP w (nextL q) A4 -> _ -> Calls Tryz.prog 52 #[_, .agg (portA (dueL q (thP q)) A4 c4), _] w _ at HM2'
  rw [hz] at HM2' ⊢
  have HM3 := hd_ HM2'
  have hi4' : InP w2 (nextL q) A4 := hi4
  have HZ := hd_ (show portA (nextL q) A4 c4 = #[z0, z1, z2, z3, z4, z5, z6, z7, z8, z9, z10, z11, z12, z13, z14, z15] from hz)
  have hB2 := bG_ hB1 hb2
  have h32 := h31.below hb2 h31.lt
  have h42 := h41.below hb2 h41.lt
  have hi22 : InP w2 q A2 := Sl.below hi21 hb2
  have hs2 := hs1.below hb2
  have hz2 := hb2.size
  clear HM2 HM2' hz HDU h31 h41 hi21 hs1 hb2 hi4 hB1
  obtain ⟨m, hm⟩ : ∃ m, (whoL q (thP q)).length = m := ⟨_, rfl⟩
  rw [hm]
  have HNS2 := hd_ (fun h => HNS.out (hm.trans h))
  clear HNS hm hw4
  go_upto_region 3 with (refine wpList_store_box rfl rfl (by first | rfl | simp [aE, aP]) (by first | rfl | simp [aE, aP]) (BoxAt.new w2 _) rfl rfl hzo ?_; intro w3 h7 hr3)
  have hb3 : Below w2.heap.size w2 w3 := ((Below.refl _ _).alloc (Nat.le_refl _) _).trans (hr3.below (Nat.le_refl _))
  have hB3 := bG_ hB2 hb3
  have h33 := h32.below hb3 h32.lt
  have h43 := h42.below hb3 h42.lt
  have hi23 : InP w3 q A2 := Sl.below hi22 hb3
  have hi43 : InP w3 (nextL q) A4 := Sl.below hi4' hb3
  have hs3 := hs2.below hb3
  have hz3 := hb3.size
  clear hr3 hB2 h32 h42 hi22 hi4' hs2 hb3
  rcases Nat.eq_zero_or_pos m with hm0 | hm0
  · subst hm0
    have HNS3 := hd_ (HNS2.out rfl)
    clear HNS2 HM3
    go_wp2_with (first
      | (refine wpList_load_box rfl rfl (by first | rfl | simp [aE, aP]) h7 rfl ?_)
      | (refine wpList_store_state (us := #[z0, z1, z2, z3, z4, z5, z6, z7, z8, z9, z10, z11, z12, z13, z14, z15, .slice A3 (thP q).length c3]) rfl rfl (by first | rfl | simp [aE, aP]) (by first | rfl | simp [aE, aP]) h43 hzz rfl (all_snoc16 hzo rfl) ?_; intro w4 h44 hr4))
    refine bodyPost_ret (results_cell_row rfl _ _ (w.heap.size + 2) 65 #[z0, z1, z2, z3, z4, z5, z6, z7, z8, z9, z10, z11, z12, z13, z14, z15, .slice A3 (thP q).length c3] (0, 0) _ rfl h44 Tryz.underlying65 rfl state_size) rfl ?_
    have hB4 := hB3.trans (hr4.below (n := w.heap.size) (by omega))
    have hrb : Below w3.heap.size w3 w3 := Below.refl _ _
    refine ⟨z0, z1, z2, z3, z4, z5, z6, z7, z8, z9, z10, z11, z12, z13, z14, z15, A4, c4, A3, c3, by rw [HNS3.out], HZ.out, ?_, ?_, hB4, hr2.mono (by omega), hr1.mono (by omega)⟩
    · exact sl_off hi43 hr4 (hr2.mono (by omega))
    · rw [HNS3.out]; exact sl_off hs3 hr4 (hr1.mono (by omega))
  · have hd : decide ((0 : Int) < (m : Int)) = true := by simpa using hm0
    clear HNS2
    go_wp2_with (first
      | (refine wpList_load_box rfl rfl ?hx h33 rfl ?_; (case hx => first | rfl | (simp [aE, aP]; done)))
      | (refine wpList_load_box rfl rfl ?hx h7 rfl ?_; (case hx => first | rfl | (simp [aE, aP]; done))))
    refine (HM3.out _ hi23 hi43 hs3).mono ?_
    rintro e w5 ⟨A5, c5, n5, rfl, hs5, hb5, hr5⟩
    have hB5 := bG_ hB3 hb5
    have h75 := h7.below hb5 h7.lt
    have h45 := h43.below hb5 h43.lt
    have hi45 : InP w5 (nextL q) A4 := Sl.below hi43 hb5
    clear h33 h7 h43 hi23 hi43 hs3 hb5 HM3 hd
    go_wp2_with (first
      | (refine wpList_load_box rfl rfl (by first | rfl | simp [aE, aP]) h75 rfl ?_)
      | (refine wpList_store_state (us := #[z0, z1, z2, z3, z4, z5, z6, z7, z8, z9, z10, z11, z12, z13, z14, z15, .slice A5 (thP (nextL q)).length c5]) rfl rfl (by first | rfl | simp [aE, aP]) (by first | rfl | simp [aE, aP]) h45 hzz rfl (all_snoc16 hzo rfl) ?_; intro w6 h46 hr6))
    refine bodyPost_ret (results_cell_row rfl _ _ (w.heap.size + 2) 65 #[z0, z1, z2, z3, z4, z5, z6, z7, z8, z9, z10, z11, z12, z13, z14, z15, .slice A5 (thP (nextL q)).length c5] (0, 0) _ rfl h46 Tryz.underlying65 rfl state_size) rfl ?_
    have hB6 := hB5.trans (hr6.below (n := w.heap.size) (by omega))
    refine ⟨z0, z1, z2, z3, z4, z5, z6, z7, z8, z9, z10, z11, z12, z13, z14, z15, A4, c4, A5, c5, rfl, HZ.out, ?_, ?_, hB6, hr2.mono (by omega), hr5.mono (by omega)⟩
    · exact sl_off hi45 hr6 (hr2.mono (by omega))
    · exact sl_off hs5 hr6 (hr5.mono (by omega))
end Go.Proofs.YtifmdkcpbajdcabGreatDoor
namespace Go.Proofs.YtifmdkcpbajdcabGreatDoor
open Go.RowKit Go.Proofs Plain
def Row (w : World) (G : Nat -> Prop) (size : Nat) (A : Option Addr) (n : Nat) (xs : List Value) : Prop :=
  Sl w size A n xs /\ (0 < n * size -> ∀ x, A = some x -> ¬ G x.block)
section
variable {w w' : World} {G G' : Nat -> Prop} {size n n0 : Nat} {A : Option Addr} {xs : List Value}
theorem Row.fresh (h : Sl w size A n xs) (hf : Fr n0 A) (hG : ∀ b, G b -> b < n0) : Row w G size A n xs :=
  ⟨h, fun _ x hx hg => absurd (hG _ hg) (Nat.not_lt.2 (hf x hx))⟩
theorem Row.same (h : Row w G size A n xs) (hk : ∀ b, b < w.heap.size -> ¬ G b -> w'.heap[b]? = w.heap[b]?) : Row w' G size A n xs := by
  refine ⟨⟨h.1.1, fun hn => ?_⟩, h.2⟩
  obtain ⟨b, off, e, hc⟩ := h.1.2 hn
  obtain ⟨b', off', e', hlt⟩ := h.1.lt hn
  rw [e] at e'
  injection e' with e'
  injection e' with e1 e2
  subst e1
  exact ⟨b, off, e, fun j hj => (World.cell?_of_block (w := w) (hk b hlt (h.2 hn _ e))).trans (hc j hj)⟩
theorem Row.more (h : Row w G size A n xs) (hk : ∀ b, G' b -> G b \/ w.heap.size <= b) : Row w G' size A n xs := by
  refine ⟨h.1, fun hn x hx hg => ?_⟩
  obtain ⟨b, off, e, hlt⟩ := h.1.lt hn
  rw [hx] at e
  injection e with e
  subst e
  rcases hk _ hg with h2 | h2
  · exact h.2 hn _ hx h2
  · exact absurd hlt (Nat.not_lt.2 h2)
end
def Tn (g : Nat) (w w' : World) : Prop := w.grownBy w' (some g)
section
variable {w w' w2 : World} {g n : Nat}
theorem Tn.of_below (h : Below w.heap.size w w') : Tn g w w' := ⟨h.os, h.tape, h.output, h.size, fun k hk _ => h.block k hk⟩
theorem Tn.refl (w : World) : Tn g w w := Tn.of_below (Below.refl _ _)
theorem Tn.trans (h : Tn g w w') (k : Tn g w' w2) : Tn g w w2 :=
  ⟨k.os.trans h.os, k.tape.trans h.tape, k.output.trans h.output, Nat.le_trans h.size k.size, fun i hi hn => (k.block i (Nat.lt_of_lt_of_le hi h.size) hn).trans (h.block i hi hn)⟩
theorem Tn.of_one (h : OneRow g w w') : Tn g w w' := ⟨h.os, h.tape, h.output, Nat.le_of_eq h.size.symm, fun k _ hn => h.block k fun e => hn (by rw [e])⟩
theorem Tn.below (h : Tn g w w') (hn : n <= g) (hs : n <= w.heap.size) : Below n w w' :=
  ⟨h.os, h.tape, h.output, h.size, fun k hk => h.block k (by omega) (fun e => by injection e with e; omega)⟩
theorem Tn.drewN (h : Tn g w w') (m : Nat) : Tn g w (w'.drewN m) := ⟨h.os, h.tape, h.output, h.size, h.block⟩
end
def StIn (w : World) (G : Nat -> Prop) (k : Nat) (q : Port) : Prop :=
  ∃ A c B cB v2 v3 v4 v5 v6 v7 v8 v9 v10 v11 v12 v13 v14 v15, portA q A c = #[.int .i64 q.now, .slice A q.ships.length c, v2, v3, v4, v5, v6, v7, v8, v9, v10, v11, v12, v13, v14, v15] /\
    StBox w k #[.int .i64 q.now, .slice A q.ships.length c, v2, v3, v4, v5, v6, v7, v8, v9, v10, v11, v12, v13, v14, v15, .slice B (thP q).length cB] /\
    Row w G 6 A q.ships.length (shC q.ships) /\ Row w G 1 B (thP q).length ((thP q).map (Value.int .i64))
def KeptIn (w : World) (G : Nat -> Prop) : Option Port -> Option Addr -> Prop
  | none, K => K = none
  | some q, K => ∃ k, K = some ⟨k, 0, none⟩ /\ ¬ G k /\ StIn w G k q
def DkBox (w : World) (g : Nat) (cs : Array Value) : Prop := w.heap[g]? = some (.cells cs 68 (0, 0))
structure DeskAt (w : World) (G : Nat -> Prop) (g : Nat) (d : Desk) : Prop where
  own : G g
  all : ∀ b, G b -> b < w.heap.size
  at_ : ∃ A c B cB K v2 v3 v4 v5 v6 v7 v8 v9 v10 v11 v12 v13 v14 v15, portA d.p A c = #[.int .i64 d.p.now, .slice A d.p.ships.length c, v2, v3, v4, v5, v6, v7, v8, v9, v10, v11, v12, v13, v14, v15] /\
    DkBox w g #[.int .i64 d.p.now, .slice A d.p.ships.length c, v2, v3, v4, v5, v6, v7, v8, v9, v10, v11, v12, v13, v14, v15, .slice B (thP d.p).length cB, .pointer K, .int .i64 d.acts] /\
    Row w G 6 A d.p.ships.length (shC d.p.ships) /\ Row w G 1 B (thP d.p).length ((thP d.p).map (Value.int .i64)) /\ KeptIn w G d.was K
section
variable {w w' : World} {G G' : Nat -> Prop} {g k : Nat} {q : Port} {d : Desk} {K : Option Addr} {r : Option Port}
theorem StIn.lt (h : StIn w G k q) : k < w.heap.size := by
  obtain ⟨_, _, _, _, _, _, _, _, _, _, _, _, _, _, _, _, _, _, _, h, _⟩ := h
  exact StBox.lt h
theorem StIn.same (h : StIn w G k q) (hg : ¬ G k) (hk : ∀ b, b < w.heap.size -> ¬ G b -> w'.heap[b]? = w.heap[b]?) : StIn w' G k q := by
  obtain ⟨A, c, B, cB, v2, v3, v4, v5, v6, v7, v8, v9, v10, v11, v12, v13, v14, v15, h1, h2, h3, h4⟩ := h
  exact ⟨A, c, B, cB, v2, v3, v4, v5, v6, v7, v8, v9, v10, v11, v12, v13, v14, v15, h1, (hk k (StBox.lt h2) hg).trans h2, h3.same hk, h4.same hk⟩
theorem StIn.more (h : StIn w G k q) (hk : ∀ b, G' b -> G b \/ w.heap.size <= b) : StIn w G' k q := by
  obtain ⟨A, c, B, cB, v2, v3, v4, v5, v6, v7, v8, v9, v10, v11, v12, v13, v14, v15, h1, h2, h3, h4⟩ := h
  exact ⟨A, c, B, cB, v2, v3, v4, v5, v6, v7, v8, v9, v10, v11, v12, v13, v14, v15, h1, h2, h3.more hk, h4.more hk⟩
theorem KeptIn.same (h : KeptIn w G r K) (hk : ∀ b, b < w.heap.size -> ¬ G b -> w'.heap[b]? = w.heap[b]?) : KeptIn w' G r K := by
  cases r with
  | none => exact h
  | some q => obtain ⟨k, e, hg, hs⟩ := h; exact ⟨k, e, hg, hs.same hg hk⟩
theorem KeptIn.more (h : KeptIn w G r K) (hk : ∀ b, G' b -> G b \/ w.heap.size <= b) : KeptIn w G' r K := by
  cases r with
  | none => exact h
  | some q =>
    obtain ⟨k, e, hg, hs⟩ := h
    refine ⟨k, e, fun h2 => ?_, hs.more hk⟩
    rcases hk _ h2 with h3 | h3
    · exact hg h3
    · exact absurd hs.lt (Nat.not_lt.2 h3)
theorem DeskAt.lt (h : DeskAt w G g d) : g < w.heap.size := h.all g h.own
theorem DeskAt.beside {g2 : Nat} (h : DeskAt w G g d) (ht : Tn g2 w w') (hg : g ≠ g2) (h2 : G g2) : DeskAt w' G g d := by
  have hk : ∀ b, b < w.heap.size -> ¬ G b -> w'.heap[b]? = w.heap[b]? := fun b hb hn => ht.block b hb fun e => hn (by injection e with e; rw [e]; exact h2)
  obtain ⟨A, c, B, cB, K, v2, v3, v4, v5, v6, v7, v8, v9, v10, v11, v12, v13, v14, v15, h1, hd, h3, h4, h5⟩ := h.at_
  exact ⟨h.own, fun b hb => Nat.lt_of_lt_of_le (h.all b hb) ht.size, A, c, B, cB, K, v2, v3, v4, v5, v6, v7, v8, v9, v10, v11, v12, v13, v14, v15, h1,
    (ht.block g h.lt fun e => hg (by injection e)).trans hd, h3.same hk, h4.same hk, h5.same hk⟩
theorem DeskAt.below (h : DeskAt w G g d) (hb : Below w.heap.size w w') : DeskAt w' G g d := by
  have hk : ∀ b, b < w.heap.size -> ¬ G b -> w'.heap[b]? = w.heap[b]? := fun b hlt _ => hb.block b hlt
  obtain ⟨A, c, B, cB, K, v2, v3, v4, v5, v6, v7, v8, v9, v10, v11, v12, v13, v14, v15, h1, hd, h3, h4, h5⟩ := h.at_
  exact ⟨h.own, fun b hb2 => Nat.lt_of_lt_of_le (h.all b hb2) hb.size, A, c, B, cB, K, v2, v3, v4, v5, v6, v7, v8, v9, v10, v11, v12, v13, v14, v15, h1,
    (hb.block g h.lt).trans hd, h3.same hk, h4.same hk, h5.same hk⟩
theorem DeskAt.more (h : DeskAt w G g d) (hg : G' g) (ha : ∀ b, G' b -> b < w.heap.size) (hk : ∀ b, G' b -> G b) : DeskAt w G' g d := by
  obtain ⟨A, c, B, cB, K, v2, v3, v4, v5, v6, v7, v8, v9, v10, v11, v12, v13, v14, v15, h1, hd, h3, h4, h5⟩ := h.at_
  exact ⟨hg, ha, A, c, B, cB, K, v2, v3, v4, v5, v6, v7, v8, v9, v10, v11, v12, v13, v14, v15, h1, hd, h3.more fun b hb => .inl (hk b hb), h4.more fun b hb => .inl (hk b hb), h5.more fun b hb => .inl (hk b hb)⟩
theorem DeskAt.join (h : DeskAt w G g d) (hb : Below w.heap.size w w') (hk : ∀ b, G' b -> G b \/ w.heap.size <= b) (hg : G' g) (ha : ∀ b, G' b -> b < w'.heap.size) : DeskAt w' G' g d := by
  have hk2 : ∀ b, b < w.heap.size -> ¬ G b -> w'.heap[b]? = w.heap[b]? := fun b hlt _ => hb.block b hlt
  have hk3 : ∀ b, b < w.heap.size -> ¬ G' b -> w'.heap[b]? = w.heap[b]? := fun b hlt _ => hb.block b hlt
  obtain ⟨A, c, B, cB, K, v2, v3, v4, v5, v6, v7, v8, v9, v10, v11, v12, v13, v14, v15, h1, hd, h3, h4, h5⟩ := h.at_
  exact ⟨hg, ha, A, c, B, cB, K, v2, v3, v4, v5, v6, v7, v8, v9, v10, v11, v12, v13, v14, v15, h1,
    (hb.block g h.lt).trans hd, (h3.more hk).same hk3, (h4.more hk).same hk3, (h5.more hk).same hk3⟩
end
def RetD (G : Nat -> Prop) (g : Nat) (v : Value) (d : Desk) (w : World) (e : Ending) (w' : World) : Prop := e = .returned v /\ DeskAt w' G g d /\ Tn g w w'
theorem dk_acts {w : World} {g : Nat} {v0 v1 v2 v3 v4 v5 v6 v7 v8 v9 v10 v11 v12 v13 v14 v15 v16 v17 v18 x : Value} (h : DkBox w g #[v0, v1, v2, v3, v4, v5, v6, v7, v8, v9, v10, v11, v12, v13, v14, v15, v16, v17, v18]) :
    DkBox (w.setCell ⟨g, 18, none⟩ x) g #[v0, v1, v2, v3, v4, v5, v6, v7, v8, v9, v10, v11, v12, v13, v14, v15, v16, v17, x] := by
  unfold DkBox at h ⊢
  rw [setCell_eq_setRow w g 18 _ _ _ _ h]
  exact setRow_heap w g _ _ _ _ h
theorem dk_kept {w : World} {g : Nat} {v0 v1 v2 v3 v4 v5 v6 v7 v8 v9 v10 v11 v12 v13 v14 v15 v16 v17 v18 x : Value} (h : DkBox w g #[v0, v1, v2, v3, v4, v5, v6, v7, v8, v9, v10, v11, v12, v13, v14, v15, v16, v17, v18]) :
    DkBox (w.setCell ⟨g, 17, none⟩ x) g #[v0, v1, v2, v3, v4, v5, v6, v7, v8, v9, v10, v11, v12, v13, v14, v15, v16, x, v18] := by
  unfold DkBox at h ⊢
  rw [setCell_eq_setRow w g 17 _ _ _ _ h]
  exact setRow_heap w g _ _ _ _ h
theorem OneRow.trans {g : Nat} {a b c : World} (h : OneRow g a b) (k : OneRow g b c) : OneRow g a c :=
  ⟨k.os.trans h.os, k.tape.trans h.tape, k.output.trans h.output, k.size.trans h.size, fun i hi => (k.block i hi).trans (h.block i hi)⟩
theorem OneRow.refl (g : Nat) (w : World) : OneRow g w w := ⟨rfl, rfl, rfl, rfl, fun _ _ => rfl⟩
def setL (cs : Array Value) : Nat -> List Value -> Array Value
  | _, [] => cs
  | o, v :: r => setL (cs.setIfInBounds o v) (o + 1) r
theorem dkcells_set {g : Nat} {T : TypeId} {fr : Nat × Nat} : ∀ (vs : List Value) (o : Nat) (w : World) (cs : Array Value), w.heap[g]? = some (.cells cs T fr) ->
    OneRow g w (w.setCells g o vs) /\ (w.setCells g o vs).heap[g]? = some (.cells (setL cs o vs) T fr)
  | [], o, w, cs, h => ⟨OneRow.refl g w, h⟩
  | v :: r, o, w, cs, h => by
    have h1 : (w.setCell ⟨g, o, none⟩ v).heap[g]? = some (.cells (cs.setIfInBounds o v) T fr) := by
      rw [setCell_eq_setRow w g o _ _ _ _ h]; exact setRow_heap w g _ _ _ _ h
    obtain ⟨h2, h3⟩ := dkcells_set r (o + 1) _ _ h1
    exact ⟨(OneRow.of_cell w ⟨g, o, none⟩ v).trans h2, h3⟩
theorem setL_now {v0 v1 v2 v3 v4 v5 v6 v7 v8 v9 v10 v11 v12 v13 v14 v15 v16 v17 v18 u0 u1 u2 u3 u4 u5 u6 u7 u8 u9 u10 u11 u12 u13 u14 u15 u16 : Value} : setL #[v0, v1, v2, v3, v4, v5, v6, v7, v8, v9, v10, v11, v12, v13, v14, v15, v16, v17, v18] 0 [u0, u1, u2, u3, u4, u5, u6, u7, u8, u9, u10, u11, u12, u13, u14, u15, u16] = #[u0, u1, u2, u3, u4, u5, u6, u7, u8, u9, u10, u11, u12, u13, u14, u15, u16, v17, v18] := by
  simp only [setL, List.setIfInBounds_toArray, List.set_cons_zero, List.set_cons_succ, Nat.reduceAdd]
theorem dk_there {w : World} {g : Nat} {v0 v1 v2 v3 v4 v5 v6 v7 v8 v9 v10 v11 v12 v13 v14 v15 v16 v17 v18 : Value} (hf : DkBox w g #[v0, v1, v2, v3, v4, v5, v6, v7, v8, v9, v10, v11, v12, v13, v14, v15, v16, v17, v18]) : w.there g 0 17 := by
  have hc : ∀ j, j < 19 -> ∃ v, w.cell? ⟨g, j, none⟩ = some v := fun j hj => by
    rw [cell_of_row w g j _ _ _ hf]
    exact ⟨_, Array.getElem?_eq_getElem (show j < Array.size #[v0, v1, v2, v3, v4, v5, v6, v7, v8, v9, v10, v11, v12, v13, v14, v15, v16, v17, v18] from hj)⟩
  exact fun j hj => by
    obtain ⟨v, hv⟩ := hc j (by omega)
    refine ⟨?_, ?_⟩
    · rw [Nat.zero_add, hv]; rfl
    · unfold DkBox at hf; simp [World.frozen?, hf]
section
variable {ops : Array Oper} {rest : List Oper} {o : Oper} {a : Act} {w : World} {Q : Exit -> Act -> World -> Prop}
theorem wpList_store_now {x y : Operand} {g : Nat} {v0 v1 v2 v3 v4 v5 v6 v7 v8 v9 v10 v11 v12 v13 v14 v15 v16 v17 v18 u0 u1 u2 u3 u4 u5 u6 u7 u8 u9 u10 u11 u12 u13 u14 u15 u16 : Value} (hg : o.guard = none) (ho : o.op = .store 65 x y)
    (hx : a.eval x = .pointer (some ⟨g, 0, none⟩)) (hy : a.eval y = .agg #[u0, u1, u2, u3, u4, u5, u6, u7, u8, u9, u10, u11, u12, u13, u14, u15, u16]) (hf : DkBox w g #[v0, v1, v2, v3, v4, v5, v6, v7, v8, v9, v10, v11, v12, v13, v14, v15, v16, v17, v18])
    (h1 : (#[u0, u1, u2, u3, u4, u5, u6, u7, u8, u9, u10, u11, u12, u13, u14, u15, u16] : Array Value).all (·.oneCell') = true)
    (h : ∀ w', DkBox w' g #[u0, u1, u2, u3, u4, u5, u6, u7, u8, u9, u10, u11, u12, u13, u14, u15, u16, v17, v18] -> OneRow g w w' -> wpList Tryz.prog ops Q rest (a.put o.dst undef) w') : wpList Tryz.prog ops Q (o :: rest) a w := by
  obtain ⟨g1, g2⟩ := dkcells_set [u0, u1, u2, u3, u4, u5, u6, u7, u8, u9, u10, u11, u12, u13, u14, u15, u16] 0 w _ hf
  rw [setL_now] at g2
  exact wpList_store_mid hg _ x y ho g 0 _ hx hy (dk_there hf) state_size h1 (h _ g2 g1)
end
end Go.Proofs.YtifmdkcpbajdcabGreatDoor
namespace Go.Proofs.YtifmdkcpbajdcabGreatDoor
open Go.RowKit Go.Proofs Plain
open List renaming getElem_toArray -> lsA, getElem_cons_zero -> lsB, getElem_cons_succ -> lsC, setIfInBounds_toArray -> lsD, set_cons_zero -> lsE, set_cons_succ -> lsF
open Go.Act renaming put -> aP, eval -> aE
open Go.Lib renaming hid -> hd_
theorem waitL_succ : ∀ (k : Nat) (p : Port), waitL p (k + 1) = nextL (laterL (waitL p k))
  | 0, p => rfl
  | k + 1, p => by rw [waitL, waitL_succ k]; rfl
theorem portA_head {p : Port} {A : Option Addr} {c : Nat} {u0 u1 u2 u3 u4 u5 u6 u7 u8 u9 u10 u11 u12 u13 u14 u15 : Value} (h : portA p A c = #[u0, u1, u2, u3, u4, u5, u6, u7, u8, u9, u10, u11, u12, u13, u14, u15]) : u0 = .int .i64 p.now /\ u1 = .slice A p.ships.length c := by
  have h0 := congrArg (fun a : Array Value => a[0]?) h
  have h1 := congrArg (fun a : Array Value => a[1]?) h
  simp [portA] at h0 h1
  exact ⟨h0.symm, h1.symm⟩
theorem port_ones {p : Port} {A : Option Addr} {c : Nat} {vs : Array Value} (h : portA p A c = vs) : vs.all (·.oneCell') = true := by rw [<- h]; exact portA_one p A c
theorem DkBox.lt {w : World} {g : Nat} {cs : Array Value} (h : DkBox w g cs) : g < w.heap.size := (Array.getElem?_eq_some_iff.1 h).1
theorem DkBox.below {w w' : World} {g n : Nat} {cs : Array Value} (h : DkBox w g cs) (hb : Below n w w') (hn : g < n) : DkBox w' g cs := (hb.block g hn).trans h
theorem DkBox.cell {w : World} {g : Nat} {cs : Array Value} (h : DkBox w g cs) (j : Nat) : w.cell? ⟨g, j, none⟩ = cs[j]? := by rw [cell_of_row w g j _ _ _ h]
theorem DkBox.frozen {w : World} {g : Nat} {cs : Array Value} (h : DkBox w g cs) (j : Nat) : w.frozen? ⟨g, j, none⟩ = false := by unfold DkBox at h; simp [World.frozen?, h]
theorem exec_load_bx {o : Oper} {a : Act} {w : World} {x : Operand} {g : Nat} {vs : Array Value} (ho : o.op = .load 36 x) (hx : a.eval x = .pointer (some ⟨g, 0, none⟩)) (hf : BoxAt w g vs) (hs : vs.size = 16) :
    (execOp a.eval o).run Tryz.prog w = .ok (.value (.agg vs)) w := by
  unfold execOp
  simp only [ho, hx, Instr.loadAt, Instr.sureAddr, Sem.run_bind, Sem.run_pure, Result.andThen_ok, run_loadVar_row w g 36 36 vs (0, 0) _ hf Tryz.underlying36 rfl (by rw [hs]; exact port_size)]
theorem exec_load_in {o : Oper} {a : Act} {w : World} {x : Operand} {g : Nat} {v0 v1 v2 v3 v4 v5 v6 v7 v8 v9 v10 v11 v12 v13 v14 v15 v16 v17 v18 : Value} (ho : o.op = .load 36 x) (hx : a.eval x = .pointer (some ⟨g, 0, none⟩))
    (hf : DkBox w g #[v0, v1, v2, v3, v4, v5, v6, v7, v8, v9, v10, v11, v12, v13, v14, v15, v16, v17, v18]) :
    (execOp a.eval o).run Tryz.prog w = .ok (.value (.agg #[v0, v1, v2, v3, v4, v5, v6, v7, v8, v9, v10, v11, v12, v13, v14, v15])) w := by
  have hr : w.rangeAt g 0 [v0, v1, v2, v3, v4, v5, v6, v7, v8, v9, v10, v11, v12, v13, v14, v15] := range_of_block hf 16
  unfold execOp
  simp only [ho, hx, Instr.loadAt, Instr.sureAddr, Sem.run_bind, Sem.run_pure, Result.andThen_ok, run_loadVar_mid w g 0 36 _ _ hr Tryz.underlying36 rfl port_size]
section
variable {o : Oper} {a : Act} {w : World} {Q : Exit -> Act -> World -> Prop} {K : Act -> World -> Prop}
theorem oper_load_now {x : Operand} {g : Nat} {v0 v1 v2 v3 v4 v5 v6 v7 v8 v9 v10 v11 v12 v13 v14 v15 v16 v17 v18 : Value} (ho : o.op = .load 65 x) (hx : a.eval x = .pointer (some ⟨g, 0, none⟩))
    (hf : DkBox w g #[v0, v1, v2, v3, v4, v5, v6, v7, v8, v9, v10, v11, v12, v13, v14, v15, v16, v17, v18])
    (h : K (a.put o.dst (.agg #[v0, v1, v2, v3, v4, v5, v6, v7, v8, v9, v10, v11, v12, v13, v14, v15, v16])) w) : o.wp Tryz.prog a w K Q :=
  wp_load_mid 65 x ho g 0 hx [v0, v1, v2, v3, v4, v5, v6, v7, v8, v9, v10, v11, v12, v13, v14, v15, v16] _ (range_of_block hf 17) Tryz.underlying65 rfl state_size h
theorem oper_store_now {x y : Operand} {g : Nat} {v0 v1 v2 v3 v4 v5 v6 v7 v8 v9 v10 v11 v12 v13 v14 v15 v16 v17 v18 u0 u1 u2 u3 u4 u5 u6 u7 u8 u9 u10 u11 u12 u13 u14 u15 u16 : Value} (ho : o.op = .store 65 x y)
    (hx : a.eval x = .pointer (some ⟨g, 0, none⟩)) (hy : a.eval y = .agg #[u0, u1, u2, u3, u4, u5, u6, u7, u8, u9, u10, u11, u12, u13, u14, u15, u16]) (hf : DkBox w g #[v0, v1, v2, v3, v4, v5, v6, v7, v8, v9, v10, v11, v12, v13, v14, v15, v16, v17, v18])
    (h1 : (#[u0, u1, u2, u3, u4, u5, u6, u7, u8, u9, u10, u11, u12, u13, u14, u15, u16] : Array Value).all (·.oneCell') = true)
    (h : ∀ w', DkBox w' g #[u0, u1, u2, u3, u4, u5, u6, u7, u8, u9, u10, u11, u12, u13, u14, u15, u16, v17, v18] -> OneRow g w w' -> K (a.put o.dst undef) w') : o.wp Tryz.prog a w K Q := by
  obtain ⟨g1, g2⟩ := dkcells_set [u0, u1, u2, u3, u4, u5, u6, u7, u8, u9, u10, u11, u12, u13, u14, u15, u16] 0 w _ hf
  rw [setL_now] at g2
  exact wp_store_mid 65 x y ho g 0 _ hx hy (dk_there hf) state_size h1 (h _ g2 g1)
end
theorem desk_next {w0 w w' : World} {G : Nat -> Prop} {g : Nat} {q : Port} {A B : Option Addr} {c cB : Nat} {r : Option Port} {K : Option Addr} {ac : Nat} {u0 u1 u2 u3 u4 u5 u6 u7 u8 u9 u10 u11 u12 u13 u14 u15 : Value} (hg : G g) (hall : ∀ b, G b -> b < w0.heap.size) (hsz : w0.heap.size <= w.heap.size)
    (hq : portA q A c = #[u0, u1, u2, u3, u4, u5, u6, u7, u8, u9, u10, u11, u12, u13, u14, u15]) (hi : InP w q A) (hB : Sl w 1 B (thP q).length ((thP q).map (Value.int .i64))) (hfA : Fr w0.heap.size A) (hfB : Fr w0.heap.size B) (hK : KeptIn w G r K)
    (hd : DkBox w' g #[u0, u1, u2, u3, u4, u5, u6, u7, u8, u9, u10, u11, u12, u13, u14, u15, .slice B (thP q).length cB, .pointer K, .int .i64 ac]) (hr : OneRow g w w') : DeskAt w' G g ⟨q, r, ac⟩ := by
  obtain ⟨rfl, rfl⟩ := portA_head hq
  have hk : ∀ b, b < w.heap.size -> ¬ G b -> w'.heap[b]? = w.heap[b]? := fun b _ hn => hr.block b fun e => hn (by rw [e]; exact hg)
  exact ⟨hg, fun b hb => Nat.lt_of_lt_of_le (hall b hb) (Nat.le_trans hsz (Nat.le_of_eq hr.size.symm)), A, c, B, cB, K, _, _, _, _, _, _, _, _, _, _, _, _, _, _, hq, hd,
    (Row.fresh hi hfA hall).same hk, (Row.fresh hB hfB hall).same hk, hK.same hk⟩
set_option maxRecDepth 100000 in
theorem wait_bad (G : Nat -> Prop) (g : Nat) (d : Desk) (n : Int) (w : World) (hD : DeskAt w G g d) (hs : PGood d.p) (hn : i64 n) (h : n < 1 \/ 300 - d.p.now <= n) :
    Calls Tryz.prog 27 #[.pointer (some ⟨g, 0, none⟩), .int .i64 n] w (RetD G g (.int .i64 2) d w) := by
  have hDD := hd_ hD
  obtain ⟨n1, n2⟩ := hn
  have hnow := hs.now
  obtain ⟨A, c, B, cB, K0, v2, v3, v4, v5, v6, v7, v8, v9, v10, v11, v12, v13, v14, v15, hv, hb, -⟩ := hD.at_
  have hc0 : w.cell? ⟨g, 0, none⟩ = some (.int .i64 d.p.now) := hb.cell 0
  obtain ⟨T, hT⟩ : ∃ T, d.p.now = T := ⟨_, rfl⟩
  rw [hT] at hc0 h hnow
  have HP := hd_ (show ∀ e w', e = .returned (.int .i64 2) /\ w' = w -> RetD G g (.int .i64 2) d w e w' from fun e w' ⟨h1, h2⟩ => by subst h2; exact ⟨h1, hDD.out, Tn.refl _⟩)
  clear hT hs hb hv hD hDD
  by_cases h1 : n < 1
  · go_enter Tryz.func27, Tryz.ntmps27
    go_wp2_with fail
    go_ret
    exact HP.out _ _ ⟨rfl, rfl⟩
  · have h2 : 300 - T <= n := by omega
    clear h
    go_enter Tryz.func27, Tryz.ntmps27
    go_wp2_with fail
    go_ret
    exact HP.out _ _ ⟨rfl, rfl⟩
set_option maxRecDepth 100000 in
theorem wait_good (G : Nat -> Prop) (g : Nat) (d : Desk) (n : Int) (w : World) (hD : DeskAt w G g d) (hs : Settled d.p) (h1 : 1 <= n) (h2 : n < 300 - d.p.now) :
    Calls Tryz.prog 27 #[.pointer (some ⟨g, 0, none⟩), .int .i64 n] w (RetD G g (.int .i64 0) ⟨waitL d.p n.toNat, d.was, d.acts⟩ w) := by
  obtain ⟨p, was, ac⟩ := d
  dsimp only at hs h2 ⊢
  have hnow := hs.good.now
  have hc0 : w.cell? ⟨g, 0, none⟩ = some (.int .i64 p.now) := by
    obtain ⟨A, c, B, cB, K0, v2, v3, v4, v5, v6, v7, v8, v9, v10, v11, v12, v13, v14, v15, hv, hb, -⟩ := hD.at_
    exact hb.cell 0
  obtain ⟨m, hm⟩ : ∃ m : Nat, n = m := ⟨n.toNat, by omega⟩
  subst hm
  rw [Int.toNat_natCast]
  obtain ⟨T, hT⟩ : ∃ T, p.now = T := ⟨_, rfl⟩
  have HN := hd_ hT
  rw [hT] at hc0 h2 hnow
  have HS := hd_ hs
  clear hs hT
  go_enter Tryz.func27, Tryz.ntmps27
  go_wp2_with fail
  go_loopw [21] (fun i wr => ∃ k : Nat, k <= m /\ i = .int .i64 k /\ DeskAt wr G g ⟨waitL p k, was, ac⟩ /\ Tn g w wr) (fun i _ => m - (intOf i).toNat)
  case atStart => exact ⟨0, Nat.zero_le _, rfl, hD, Tn.refl _⟩
  case round =>
    obtain ⟨k, hk, rfl, hDk, hTk⟩ := hrel
    clear hc0 hD
    by_cases hlt : k < m
    · have hset := wait_settled k HS.out (by rw [HN.out]; omega)
      have hpn : (waitL p k).now = T + k := by rw [hset.2.2, HN.out]
      obtain ⟨pr, hpr⟩ : ∃ pr, waitL p k = pr := ⟨_, rfl⟩
      have HW := hd_ (show waitL p (k + 1) = nextL (laterL pr) by rw [waitL_succ, hpr])
      rw [hpr] at hDk hset hpn
      have hg := hset.1.good
      have hlg := (later_good hg (by rw [hpn]; omega)).1
      have hall := hDk.all
      have hown := hDk.own
      obtain ⟨A, c, B, cB, K0, v2, v3, v4, v5, v6, v7, v8, v9, v10, v11, v12, v13, v14, v15, hv, hb, hrA, hrB, hK⟩ := hDk.at_
      dsimp only at hv hb hrA hrB hK
      have hL := fun w h => later_walk pr A c w hg h (by rw [hpn]; omega)
      have hX := fun A2 c2 w h3 h4 h5 {u0 u1 u2 u3 u4 u5 u6 u7 u8 u9 u10 u11 u12 u13 u14 u15} hu => next_any pr (laterL pr) A A2 c c2 B cB w hg hlg h3 h4 h5 hv (u0 := u0) (u1 := u1) (u2 := u2) (u3 := u3) (u4 := u4) (u5 := u5) (u6 := u6) (u7 := u7) (u8 := u8) (u9 := u9) (u10 := u10) (u11 := u11) (u12 := u12) (u13 := u13) (u14 := u14) (u15 := u15) hu
      rw [hv] at hL
      have HL := hd_ hL
      have HX := hd_ hX
      have HAL := hd_ hall
      clear hL hX hg hlg hset hpn hpr hv hDk hall
      have hi0 : InP wr pr A := hrA.1
      have hwlt := hb.lt
      go_wp2_with (refine wpList_load_in rfl rfl (by first | rfl | simp [aE, aP]) hb rfl ?_)
      refine (HL.out _ hi0).mono ?_
      rintro e w1 ⟨A2, c2, rfl, hi2, hb1⟩
      dsimp only at hi2 ⊢
      obtain ⟨z0, z1, z2, z3, z4, z5, z6, z7, z8, z9, z10, z11, z12, z13, z14, z15, hz, hzo⟩ := port_vs1 (laterL pr) A2 c2
      rw [hz]
      have HZ := hd_ hz
      have hd1 := DkBox.below hb hb1 hwlt
      have hrA1 := hrA.same (fun b h _ => hb1.block b h)
      have hrB1 := hrB.same (fun b h _ => hb1.block b h)
      have hK1 := hK.same (fun b h _ => hb1.block b h)
      have hsz1 := hb1.size
      clear hz hb hrA hrB hK hi0 HL
      go_upto_region 6 with (refine wpList_store_box rfl rfl (by first | rfl | simp [aE, aP]) (by first | rfl | simp [aE, aP]) (BoxAt.new w1 _) rfl rfl hzo ?_; intro w3 h7 hr3)
      have hb3 : Below w1.heap.size w1 w3 := ((Below.refl _ _).alloc (Nat.le_refl _) _).trans (hr3.below (Nat.le_refl _))
      have hB3 := bG_ hb1 hb3
      have hg1 : g < w1.heap.size := Nat.lt_of_lt_of_le hwlt hsz1
      have hd3 : DkBox w3.drew g _ := DkBox.below hd1 hb3.drew hg1
      have hrA3 := hrA1.same (fun b h _ => hb3.block b h)
      have hrB3 := hrB1.same (fun b h _ => hb3.block b h)
      have hK3 := hK1.same (fun b h _ => hb3.block b h)
      have hi3 : InP w3.drew (laterL pr) A2 := Sl.below hi2 hb3.drew
      have hia3 : InP w3.drew pr A := Sl.drew hrA3.1
      have hib3 : Sl w3.drew 1 B (thP pr).length ((thP pr).map (Value.int .i64)) := Sl.drew hrB3.1
      have h73 : BoxAt w3.drew w1.heap.size _ := h7
      have hne : w1.heap.size ≠ g := by omega
      clear hd1 hrA1 hrB1 hK1 hi2 hr3 hb1 hb3 hrA3 hrB3
      go_wp2_with fail
      refine wRP (S := fun w' => BoxAt w' w1.heap.size #[z0, z1, z2, z3, z4, z5, z6, z7, z8, z9, z10, z11, z12, z13, z14, z15]) (.take 0 (.take 1 (.take 2 (.take 3 (.take 5 (.one 4 (.one 6 (.take 7 (.take 8 (.one 9 (.fin))))))))))) (by kernel_rfl) (by kernel_rfl) h73 ?_
      iterate 4
        refine pT_ (v := ?_) rfl (by rfl) (fun w' hw' => ?_) ?_
        rotate_left
        · go_simp; try with_reducible rfl
        try simp only [aP, lsA, lsB, lsC, lsD, lsE, lsF]
      refine pT_ rfl (by rfl) (fun w' hw' => exec_load_bx rfl rfl hw' rfl) ?_
      try simp only [aP, lsA, lsB, lsC, lsD, lsE, lsF]
      refine pO_ rfl (by rfl) fun K hK => ?_
      refine oper_load_now rfl (by first | rfl | simp [aE, aP]) hd3 ?_
      refine hK.out _ _ h73 ?_
      clear hK K
      try simp only [aP, lsA, lsB, lsC, lsD, lsE, lsF]
      refine pO_ rfl (by rfl) fun K hK => ?_
      go_simp
      go_at_call 31
      refine (HX.out A2 c2 _ hia3 hi3 hib3 HZ.out).mono ?_
      rintro e w5 ⟨y0, y1, y2, y3, y4, y5, y6, y7, y8, y9, y10, y11, y12, y13, y14, y15, A5, c5, B5, cB5, rfl, hy, hi5, hs5, hb5, hfA, hfB⟩
      have h75 := h73.below hb5 h73.lt
      have hd5 := DkBox.below hd3 hb5 (DkBox.lt hd3)
      have hK5 := hK3.same (w := w3) (fun b h _ => hb5.block b h)
      have hB5 := bG_ hB3 (bUn hb5)
      have hyo := port_ones hy
      have HY := hd_ hy
      refine hK.out _ _ h75 ?_
      clear hK K hia3 hi3 hib3 hy HX hd3
      try simp only [aP, lsA, lsB, lsC, lsD, lsE, lsF]
      iterate 2
        refine pT_ (v := ?_) rfl (by rfl) (fun w' hw' => ?_) ?_
        rotate_left
        · go_simp; try with_reducible rfl
        try simp only [aP, lsA, lsB, lsC, lsD, lsE, lsF]
      refine pO_ rfl (by rfl) fun K hK => ?_
      refine oper_store_now rfl (by first | rfl | simp [aE, aP]) (by first | rfl | simp [aE, aP]) hd5 (all_snoc16 hyo rfl) ?_
      intro w6 hd6 hr6
      refine hK.out _ _ (h75.one hr6 hne) ?_
      clear hK K
      try simp only [aP, lsA, lsB, lsC, lsD, lsE, lsF]
      refine pD_ (NoPanic.normal ?_)
      have HD := hd_ (show DeskAt w6 G g ⟨waitL p (k + 1), was, ac⟩ by
        rw [HW.out]
        exact desk_next (w0 := w3.drew) hown (fun b hb => Nat.lt_of_lt_of_le (HAL.out b hb) hB3.size) hb5.size HY.out hi5 hs5 hfA hfB hK5 hd6 hr6)
      have HT := hd_ (hTk.trans ((Tn.of_below hB5).trans (Tn.of_one hr6)))
      clear hd6 hr6 hTk hB5 hB3 hd5 h75 h73 h7 hK5 hK3 hi5 hs5 hfA hfB hyo hzo HZ HAL HY
      go_wp2_with fail
      go_roundw
      case rel => exact ⟨k + 1, by omega, by go_num, HD.out, HT.out⟩
      case measure => simp [intOf] <;> omega
    · obtain rfl : k = m := by omega
      have HD := hd_ hDk
      clear hDk
      go_wp2_with fail
      go_ret
      exact ⟨rfl, HD.out, hTk⟩
end Go.Proofs.YtifmdkcpbajdcabGreatDoor
namespace Go.Proofs.YtifmdkcpbajdcabGreatDoor
open Go.RowKit Go.Proofs Plain
open Go.Lib renaming hid -> hd_
def RpAt (w : World) (k : Nat) (c n : Int) : Prop := w.heap[k]? = some (.cells #[.int .i64 c, .int .i64 n] 29 (0, 0))
theorem reply_sz : (Tryz.prog.info? 29).map (·.size) = some 2 := by kernel_rfl
section
variable {w w' : World} {k n0 : Nat} {c n c' n' : Int}
theorem RpAt.lt (h : RpAt w k c n) : k < w.heap.size := (Array.getElem?_eq_some_iff.1 h).1
theorem RpAt.new (w : World) (c n : Int) : RpAt (w.alloc (.cells #[.int .i64 c, .int .i64 n] 29)) w.heap.size c n := heap_alloc_new w _
theorem RpAt.alloc (h : RpAt w k c n) (o : Obj) : RpAt (w.alloc o) k c n := (Below.heap_alloc w o k h.lt).trans h
theorem RpAt.below (h : RpAt w k c n) (hb : Below n0 w w') (hn : k < n0) : RpAt w' k c n := (hb.block k hn).trans h
theorem RpAt.cell0 (h : RpAt w k c n) : w.cell? ⟨k, 0, none⟩ = some (.int .i64 c) := by rw [cell_of_row w k 0 _ _ _ h]; rfl
theorem RpAt.cell1 (h : RpAt w k c n) : w.cell? ⟨k, 1, none⟩ = some (.int .i64 n) := by rw [cell_of_row w k 1 _ _ _ h]; rfl
theorem RpAt.frozen (h : RpAt w k c n) (j : Nat) : w.frozen? ⟨k, j, none⟩ = false := by unfold RpAt at h; simp [World.frozen?, h]
theorem RpAt.put (h : RpAt w k c n) : RpAt ((w.setCell ⟨k, 0, none⟩ (.int .i64 c')).setCell ⟨k, 1, none⟩ (.int .i64 n')) k c' n' := by
  unfold RpAt at h ⊢
  have h1 : (w.setCell ⟨k, 0, none⟩ (.int .i64 c')).heap[k]? = some (.cells #[.int .i64 c', .int .i64 n] 29 (0, 0)) := by
    rw [setCell_eq_setRow w k 0 _ _ _ _ h]; exact setRow_heap w k _ _ _ _ h
  rw [setCell_eq_setRow _ k 1 _ _ _ _ h1]; exact setRow_heap _ k _ _ _ _ h1
end
def RetAns (c n : Int) (w : World) (e : Ending) (w' : World) : Prop := e = .returned (.agg #[.int .i64 c, .int .i64 n]) /\ Below w.heap.size w w'
theorem ans_at {fn : Func} {t : Tmp} {W : World} {k : Nat} {c n : Int} {tmps : Array Value} (h : fn.results = #[.cell t 29]) (hp : tmps.getD t undef = .pointer (some ⟨k, 0, none⟩)) (hR : RpAt W k c n) :
    (results fn tmps).run Tryz.prog W = .ok (.agg #[.int .i64 c, .int .i64 n]) W :=
  results_cell_row h _ _ k 29 #[.int .i64 c, .int .i64 n] (0, 0) _ hp hR Tryz.underlying29 rfl reply_sz
theorem ans_end {fn : Func} {t : Tmp} {W : World} {k : Nat} {c n c' n' : Int} {tmps : Array Value} (h : fn.results = #[.cell t 29]) (hp : tmps.getD t undef = .pointer (some ⟨k, 0, none⟩)) (hR : RpAt W k c n) :
    (results fn tmps).run Tryz.prog ((W.setCell ⟨k, 0, none⟩ (.int .i64 c')).setCell ⟨k, 1, none⟩ (.int .i64 n')) = .ok (.agg #[.int .i64 c', .int .i64 n']) ((W.setCell ⟨k, 0, none⟩ (.int .i64 c')).setCell ⟨k, 1, none⟩ (.int .i64 n')) :=
  ans_at h hp hR.put
set_option maxRecDepth 100000 in
theorem ask_any (G : Nat -> Prop) (g : Nat) (d : Desk) (n : Int) (w : World) (hD : DeskAt w G g d) (hs : PGood d.p) (hn : i64 n) :
    Calls Tryz.prog 29 #[.pointer (some ⟨g, 0, none⟩), .int .i64 n] w (RetAns (askL d.p n).1 (askL d.p n).2 w) := by
  have hgl := hD.lt
  obtain ⟨p, was, ac⟩ := d
  obtain ⟨A, c, B, cB, K0, v2, v3, v4, v5, v6, v7, v8, v9, v10, v11, v12, v13, v14, v15, hv, hb, hrA, hrB, -⟩ := hD.at_
  dsimp only at hs hv hb hrA hrB ⊢
  have hc1 : w.cell? ⟨g, 1, none⟩ = some (.slice A p.ships.length c) := hb.cell 1
  have hc16 : w.cell? ⟨g, 16, none⟩ = some (.slice B (thP p).length cB) := hb.cell 16
  have hpl := plan_len hs
  have hlen := hs.len
  obtain ⟨n1, n2⟩ := hn
  have hA := hrA.1
  have hB := hrB.1
  clear hb hv hrA hrB hD hs
  by_cases h0 : n < 0 \/ (p.ships.length : Int) <= n
  · have HE := hd_ (show askL p n = (3, 0) from if_pos h0)
    have HB := hd_ (show ∀ o, Below w.heap.size w (w.alloc o) from fun o => (Below.refl _ _).alloc (Nat.le_refl _) _)
    by_cases h1 : n < 0
    · clear h0 hA hB hpl
      go_enter Tryz.func29, Tryz.ntmps29
      go_wp2_with fail
      refine bodyPost_ret (ans_at rfl rfl (RpAt.new w _ _)) rfl ?_
      rw [HE.out]; exact ⟨rfl, HB.out _⟩
    · have h2 : (p.ships.length : Int) <= n := by omega
      clear h0 hA hB hpl
      go_enter Tryz.func29, Tryz.ntmps29
      go_wp2_with fail
      refine bodyPost_ret (ans_at rfl rfl (RpAt.new w _ _)) rfl ?_
      rw [HE.out]; exact ⟨rfl, HB.out _⟩
  · obtain ⟨j, rfl⟩ : ∃ j : Nat, n = j := ⟨n.toNat, by omega⟩
    have hj : j < p.ships.length := by omega
    have h1 : ¬ (j : Int) < 0 := by omega
    have h2 : (j : Int) < (p.ships.length : Int) := by omega
    have HE := hd_ (show askL p j = (0, if (p.ship j).state = 1 then (thP p).getD j (-1) else if (p.ship j).state = 3 then (p.ship j).since else -1) by unfold askL; rw [if_neg h0, Int.toNat_natCast])
    obtain ⟨b, off, rfl, hbl, hc⟩ := ships_at hA (by omega)
    obtain ⟨k0, k1, k2, k3, k4, k5⟩ := hc j hj
    rw [show p.ships.getD j Ship.zero = p.ship j from rfl] at k0 k1 k2 k3 k4 k5
    obtain ⟨b2, off2, rfl, hc2⟩ := hB.2 (by rw [hpl]; omega)
    have hcp : w.cell? ⟨b2, off2 + j, none⟩ = some (.int .i64 ((thP p).getD j (-1))) := by
      rw [hc2 j (by rw [hpl]; omega), List.getElem?_map, List.getD_eq_getElem?_getD, List.getElem?_eq_getElem (by rw [hpl]; exact hj)]; rfl
    have hbl2 := cell_lt hcp
    obtain ⟨PV, hPV⟩ : ∃ PV, (thP p).getD j (-1) = PV := ⟨_, rfl⟩
    obtain ⟨PL, hPL⟩ : ∃ PL, (thP p).length = PL := ⟨_, rfl⟩
    obtain ⟨sh, hsh⟩ : ∃ sh, p.ship j = sh := ⟨_, rfl⟩
    rw [hPV, hsh] at HE
    rw [hPV] at hcp
    rw [hsh] at k0 k1 k2 k3 k4 k5
    rw [hPL] at hc16 hpl
    have hjp : (j : Int) < (PL : Int) := by omega
    obtain ⟨len, hln⟩ : ∃ len, p.ships.length = len := ⟨_, rfl⟩
    rw [hln] at hc1 hlen h2 hj hpl
    clear hA hB hc hc2 hPV hPL hsh hln h0
    obtain ⟨st, wd, lg, cl, si, qu⟩ := sh
    dsimp only at k0 k1 k2 k3 k4 k5 HE
    have HB := hd_ (show ∀ o o2, Below w.heap.size w ((w.alloc o).alloc o2) from fun o o2 => ((Below.refl _ _).alloc (Nat.le_refl _) _).alloc (by simp) _)
    by_cases h3 : st = 1
    · rw [if_pos h3] at HE
      subst h3
      go_enter Tryz.func29, Tryz.ntmps29
      go_wp2_with fail
      refine bodyPost_ret (ans_at rfl rfl ((RpAt.new w _ _).alloc _)) rfl ?_
      rw [HE.out]; exact ⟨rfl, HB.out _ _⟩
    · rw [if_neg h3] at HE
      have n1 : (st == 1) = false := by simpa using h3
      by_cases h4 : st = 3
      · rw [if_pos h4] at HE
        subst h4
        go_enter Tryz.func29, Tryz.ntmps29
        go_wp2_with fail
        refine bodyPost_ret (ans_at rfl rfl ((RpAt.new w _ _).alloc _)) rfl ?_
        rw [HE.out]; exact ⟨rfl, HB.out _ _⟩
      · rw [if_neg h4] at HE
        have n2 : (st == 3) = false := by simpa using h4
        go_enter Tryz.func29, Tryz.ntmps29
        go_wp2_with fail
        refine bodyPost_ret (ans_at rfl rfl ((RpAt.new w _ _).alloc _)) rfl ?_
        rw [HE.out]; exact ⟨rfl, HB.out _ _⟩
end Go.Proofs.YtifmdkcpbajdcabGreatDoor
