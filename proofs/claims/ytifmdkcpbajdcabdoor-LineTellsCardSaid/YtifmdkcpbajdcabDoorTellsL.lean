/- Walks: Good, Print and Parse answer exactly what the document says. -/
import Derived.Test.YtifmdkcpbajdcabDoorRefTok
import Derived.Test.YtifmdkcpbajdcabDoorLinesL
import Derived.Test.YtifmdkcpbajdcabDoorPlans
set_option linter.unusedVariables false
set_option linter.unusedSimpArgs false
namespace Go.Proofs.YtifmdkcpbajdcabDoor
open Go.RowKit Go.Proofs Plain

theorem exec_load_oL {o : Oper} {a : Act} {w : World} {x : Operand} {g : Nat} {q : Order} (ho : o.op = .load 23 x) (hx : a.eval x = .pointer (some ⟨g, 0, none⟩)) (hf : OrdAt w g q) :
    (execOp a.eval o).run Tryd.prog w = .ok (.value (.agg (ordA q))) w := by
  unfold execOp
  simp only [ho, hx, Instr.loadAt, Instr.sureAddr, Sem.run_bind, Sem.run_pure, Result.andThen_ok, run_loadVar_row w g 23 23 (ordA q) (0, 0) _ hf Tryd.underlying23 rfl order_size]
theorem eq_orderL (k a b c : Int) (w : World) : (Op.equalIn 10000 23 (.agg #[.int .i64 k, .int .i64 a, .int .i64 b, .int .i64 c]) (.agg #[.int .i64 k, .int .i64 a, .int .i64 b, .int .i64 c])).run Tryd.prog w = .ok true w := by
  simp [go_sem]
attribute [local go_sem] eq_orderL

/-- What the law leans on. -/
structure TlAt (B : Nat) (w W : World) : Prop where
  line : LineAt B W
  space : SpaceTab B W
  below : Below w.heap.size w W
theorem TlAt.go {B : Nat} {w W W' : World} (h : TlAt B w W) (hb : Below W.heap.size W W') : TlAt B w W' :=
  ⟨h.line.below (hb.mono h.line.size), Lib.TabBelow.on h.space (hb.mono h.line.size), below_line h.below hb⟩

set_option maxRecDepth 100000 in
set_option maxHeartbeats 16000000 in
theorem lineTells_walk (B : Nat) (o : Order) (s : ByteArray) (w : World) (ho : OrdWf o) (hs : s.size ≤ maxLen) (hL : LineAt B w) (hT : SpaceTab B w) :
    Calls Tryd.prog 3 #[.agg (ordA o), .string s] w fun e w' => e = .returned (.bool true) ∧ Below w.heap.size w w' := by
  have HP1 := Lib.hid (fun (W : World) (t : TlAt B w W) => print_any B o W ho t.line)
  have HP2 := Lib.hid (fun (W : World) (t : TlAt B w W) => refPrint_any B o W ho t.line.size t.space)
  have HA1 := Lib.hid (fun (W : World) (t : TlAt B w W) => parse_any B s W t.line hs)
  have HA2 := Lib.hid (fun (W : World) (t : TlAt B w W) => refParse_any B s W t.line.size t.space hs)
  have HG1 := Lib.hid (fun (W : World) (t : TlAt B w W) => goodOrder_any B o W ho t.line)
  have HG2 := Lib.hid (fun (W : World) (t : TlAt B w W) => isOrder_any B o W ho t.line.size t.space)
  have HLN := Lib.hid (fun (W : World) (t : TlAt B w W) => linesLaw_any B W t.line)
  unfold RetPrint at HP1 HP2
  unfold RetParse at HA1 HA2
  obtain ⟨PE, hPE⟩ : ∃ PE : Int, (if goodO o = true then 0 else 1) = PE := ⟨_, rfl⟩
  obtain ⟨PZ, hPZ⟩ : ∃ PZ : ByteArray, (if goodO o = true then bs (printL o) else ByteArray.empty) = PZ := ⟨_, rfl⟩
  obtain ⟨GO, hGO⟩ : ∃ GO, goodO o = GO := ⟨_, rfl⟩
  rw [hPE, hPZ] at HP1 HP2
  rw [hGO] at HG1 HG2
  obtain ⟨q, hq⟩ : ∃ q, oOf (parseL s.data.toList) = q := ⟨_, rfl⟩
  obtain ⟨eq, heq⟩ : ∃ eq, eOf (parseL s.data.toList) = eq := ⟨_, rfl⟩
  rw [hq, heq] at HA1 HA2
  clear hPE hPZ hGO hq heq ho hs
  obtain ⟨k1, a1, b1, c1⟩ := o
  obtain ⟨k2, a2, b2, c2⟩ := q
  have hT0 : TlAt B w (w.alloc (.cells (ordA ⟨k1, a1, b1, c1⟩) 23)) := TlAt.go ⟨hL, hT, Below.refl _ _⟩ ((Below.refl _ _).alloc (Nat.le_refl _) _)
  have hO0 := OrdAt.new w ⟨k1, a1, b1, c1⟩
  clear hL hT
  simp only [ordA] at HP1 HP2 HA1 HA2 HG1 HG2 hT0 hO0 ⊢
  obtain ⟨k0, hk0⟩ : ∃ k0, w.heap.size = k0 := ⟨_, rfl⟩
  rw [hk0] at hO0
  go_enter Tryd.func3, Tryd.ntmps3
  go_upto_region 1 with (fail)
  obtain ⟨w0, hw0⟩ : ∃ w0, w0 = w.alloc (.cells #[.int .i64 k1, .int .i64 a1, .int .i64 b1, .int .i64 c1] 23) := ⟨_, rfl⟩
  try rw [hk0]
  rw [← hw0]
  rw [← hw0] at hT0 hO0
  clear hw0 hk0
  have x0 : w0.cell? ⟨k0, 0, none⟩ = some (.int .i64 k1) := by rw [cell_of_row w0 k0 0 _ _ _ hO0]; rfl
  have x1 : w0.cell? ⟨k0, 1, none⟩ = some (.int .i64 a1) := by rw [cell_of_row w0 k0 1 _ _ _ hO0]; rfl
  have x2 : w0.cell? ⟨k0, 2, none⟩ = some (.int .i64 b1) := by rw [cell_of_row w0 k0 2 _ _ _ hO0]; rfl
  have x3 : w0.cell? ⟨k0, 3, none⟩ = some (.int .i64 c1) := by rw [cell_of_row w0 k0 3 _ _ _ hO0]; rfl
  go_wp2_with fail
  refine (HP1.out _ hT0).mono ?_
  rintro e w1 ⟨z, rfl, rfl, hb1⟩
  have hT1 := hT0.go hb1
  have hO1 := OrdAt.below (o := ⟨k1, a1, b1, c1⟩) hO0 hb1 (Array.getElem?_eq_some_iff.1 hO0).1
  clear hT0 hO0 hb1 HP1 x0 x1 x2 x3
  have x0 : w1.cell? ⟨k0, 0, none⟩ = some (.int .i64 k1) := by rw [cell_of_row w1 k0 0 _ _ _ hO1]; rfl
  have x1 : w1.cell? ⟨k0, 1, none⟩ = some (.int .i64 a1) := by rw [cell_of_row w1 k0 1 _ _ _ hO1]; rfl
  have x2 : w1.cell? ⟨k0, 2, none⟩ = some (.int .i64 b1) := by rw [cell_of_row w1 k0 2 _ _ _ hO1]; rfl
  have x3 : w1.cell? ⟨k0, 3, none⟩ = some (.int .i64 c1) := by rw [cell_of_row w1 k0 3 _ _ _ hO1]; rfl
  go_wp2_with fail
  refine (HP2.out _ hT1).mono ?_
  rintro e w2 ⟨z2, rfl, hz2, hb2⟩
  have hT2 := hT1.go hb2
  have hO2 := OrdAt.below (o := ⟨k1, a1, b1, c1⟩) hO1 hb2 (Array.getElem?_eq_some_iff.1 hO1).1
  subst hz2
  clear hT1 hO1 hb2 HP2 x0 x1 x2 x3
  go_wp2_with fail
  refine (HA1.out _ hT2).mono ?_
  rintro e w3 ⟨rfl, hb3⟩
  have hT3 := (hT2.go hb3).go ((Below.refl _ _).alloc (Nat.le_refl _) (.cells #[.int .i64 k2, .int .i64 a2, .int .i64 b2, .int .i64 c2] 23))
  have hO3 := OrdAt.alloc (OrdAt.below (o := ⟨k1, a1, b1, c1⟩) hO2 hb3 (Array.getElem?_eq_some_iff.1 hO2).1) (.cells #[.int .i64 k2, .int .i64 a2, .int .i64 b2, .int .i64 c2] 23)
  have hX3 := OrdAt.new w3 ⟨k2, a2, b2, c2⟩
  simp only [ordA] at hX3
  clear hT2 hO2 hb3 HA1
  go_wp2_with fail
  refine (HA2.out _ hT3).mono ?_
  rintro e w4 ⟨rfl, hb4⟩
  have hT4 := (hT3.go hb4).go ((Below.refl _ _).alloc (Nat.le_refl _) (.cells #[.int .i64 k2, .int .i64 a2, .int .i64 b2, .int .i64 c2] 23))
  have hO4 := OrdAt.alloc (OrdAt.below (o := ⟨k1, a1, b1, c1⟩) hO3 hb4 (Array.getElem?_eq_some_iff.1 hO3).1) (.cells #[.int .i64 k2, .int .i64 a2, .int .i64 b2, .int .i64 c2] 23)
  have hX4 := OrdAt.alloc (OrdAt.below (o := ⟨k2, a2, b2, c2⟩) hX3 hb4 (Array.getElem?_eq_some_iff.1 hX3).1) (.cells #[.int .i64 k2, .int .i64 a2, .int .i64 b2, .int .i64 c2] 23)
  have hY4 := OrdAt.new w4 ⟨k2, a2, b2, c2⟩
  simp only [ordA] at hY4
  clear hT3 hO3 hX3 hb4 HA2
  go_upto_region 5 with (fail)
  obtain ⟨w5, hw5⟩ : ∃ w5, w5 = w4.alloc (.cells #[.int .i64 k2, .int .i64 a2, .int .i64 b2, .int .i64 c2] 23) := ⟨_, rfl⟩
  rw [← hw5]
  rw [← hw5] at hT4 hO4 hX4 hY4
  obtain ⟨kx, hkx⟩ : ∃ kx, w3.heap.size = kx := ⟨_, rfl⟩
  obtain ⟨ky, hky⟩ : ∃ ky, w4.heap.size = ky := ⟨_, rfl⟩
  rw [hkx] at hX4
  rw [hky] at hY4
  try rw [hkx]
  try rw [hky]
  clear hw5 hkx hky
  have hX : OrdAt w5 kx ⟨k2, a2, b2, c2⟩ := hX4
  have hY : OrdAt w5 ky ⟨k2, a2, b2, c2⟩ := hY4
  have hO : OrdAt w5 k0 ⟨k1, a1, b1, c1⟩ := hO4
  clear hX4 hY4 hO4
  refine wp_region_plans (S := fun w' => Below w5.heap.size w5 w') (.take 0 (.take 1 (.take 2 (.take 3 (.take 4 (.take 5 (.take 6 (.take 7 (.take 8 (.take 9 (.take 10 (.take 11 (.take 12 (.take 13 (.take 14 (.take 15 (.take 16 (.take 17 (.take 18 (.take 19 (.take 21 (.one 20 (.one 22 (.take 23 (.take 24 (.take 25 (.one 26 (.take 27 (.take 28 (.fin)))))))))))))))))))))))))))))) (by kernel_rfl) (by kernel_rfl) (Below.refl _ _).drew ?_
  refine plan_take (v := ?_) rfl (by rfl) (fun w' hw' => ?_) ?_
  rotate_left
  · go_simp; try with_reducible rfl
  try simp only [Act.put, List.getElem_toArray, List.getElem_cons_zero, List.getElem_cons_succ, List.setIfInBounds_toArray, List.set_cons_zero, List.set_cons_succ]
  refine plan_take (v := ?_) rfl (by rfl) (fun w' hw' => ?_) ?_
  rotate_left
  · go_simp; try with_reducible rfl
  try simp only [Act.put, List.getElem_toArray, List.getElem_cons_zero, List.getElem_cons_succ, List.setIfInBounds_toArray, List.set_cons_zero, List.set_cons_succ]
  refine plan_take (v := ?_) rfl (by rfl) (fun w' hw' => ?_) ?_
  rotate_left
  · go_simp; try with_reducible rfl
  try simp only [Act.put, List.getElem_toArray, List.getElem_cons_zero, List.getElem_cons_succ, List.setIfInBounds_toArray, List.set_cons_zero, List.set_cons_succ]
  refine plan_take (v := ?_) rfl (by rfl) (fun w' hw' => ?_) ?_
  rotate_left
  · go_simp; try with_reducible rfl
  try simp only [Act.put, List.getElem_toArray, List.getElem_cons_zero, List.getElem_cons_succ, List.setIfInBounds_toArray, List.set_cons_zero, List.set_cons_succ]
  refine plan_take (v := ?_) rfl (by rfl) (fun w' hw' => ?_) ?_
  rotate_left
  · go_simp; try with_reducible rfl
  try simp only [Act.put, List.getElem_toArray, List.getElem_cons_zero, List.getElem_cons_succ, List.setIfInBounds_toArray, List.set_cons_zero, List.set_cons_succ]
  refine plan_take (v := ?_) rfl (by rfl) (fun w' hw' => ?_) ?_
  rotate_left
  · go_simp; try with_reducible rfl
  try simp only [Act.put, List.getElem_toArray, List.getElem_cons_zero, List.getElem_cons_succ, List.setIfInBounds_toArray, List.set_cons_zero, List.set_cons_succ]
  refine plan_take (v := ?_) rfl (by rfl) (fun w' hw' => ?_) ?_
  rotate_left
  · go_simp; try with_reducible rfl
  try simp only [Act.put, List.getElem_toArray, List.getElem_cons_zero, List.getElem_cons_succ, List.setIfInBounds_toArray, List.set_cons_zero, List.set_cons_succ]
  refine plan_take (v := ?_) rfl (by rfl) (fun w' hw' => ?_) ?_
  rotate_left
  · go_simp; try with_reducible rfl
  try simp only [Act.put, List.getElem_toArray, List.getElem_cons_zero, List.getElem_cons_succ, List.setIfInBounds_toArray, List.set_cons_zero, List.set_cons_succ]
  refine plan_take (v := ?_) rfl (by rfl) (fun w' hw' => ?_) ?_
  rotate_left
  · go_simp; try with_reducible rfl
  try simp only [Act.put, List.getElem_toArray, List.getElem_cons_zero, List.getElem_cons_succ, List.setIfInBounds_toArray, List.set_cons_zero, List.set_cons_succ]
  refine plan_take rfl (by rfl) (fun w' hw' => exec_load_oL (q := ⟨k2, a2, b2, c2⟩) rfl rfl (OrdAt.below hX hw' hX.lt)) ?_
  simp only [ordA]
  try simp only [Act.put, List.getElem_toArray, List.getElem_cons_zero, List.getElem_cons_succ, List.setIfInBounds_toArray, List.set_cons_zero, List.set_cons_succ]
  refine plan_take rfl (by rfl) (fun w' hw' => exec_load_oL (q := ⟨k2, a2, b2, c2⟩) rfl rfl (OrdAt.below hY hw' hY.lt)) ?_
  simp only [ordA]
  try simp only [Act.put, List.getElem_toArray, List.getElem_cons_zero, List.getElem_cons_succ, List.setIfInBounds_toArray, List.set_cons_zero, List.set_cons_succ]
  refine plan_take (v := ?_) rfl (by rfl) (fun w' hw' => ?_) ?_
  rotate_left
  · go_simp; try with_reducible rfl
  try simp only [Act.put, List.getElem_toArray, List.getElem_cons_zero, List.getElem_cons_succ, List.setIfInBounds_toArray, List.set_cons_zero, List.set_cons_succ]
  refine plan_take (v := ?_) rfl (by rfl) (fun w' hw' => ?_) ?_
  rotate_left
  · go_simp; try with_reducible rfl
  try simp only [Act.put, List.getElem_toArray, List.getElem_cons_zero, List.getElem_cons_succ, List.setIfInBounds_toArray, List.set_cons_zero, List.set_cons_succ]
  refine plan_take (v := ?_) rfl (by rfl) (fun w' hw' => ?_) ?_
  rotate_left
  · go_simp; try with_reducible rfl
  try simp only [Act.put, List.getElem_toArray, List.getElem_cons_zero, List.getElem_cons_succ, List.setIfInBounds_toArray, List.set_cons_zero, List.set_cons_succ]
  refine plan_take (v := ?_) rfl (by rfl) (fun w' hw' => ?_) ?_
  rotate_left
  · go_simp; try with_reducible rfl
  try simp only [Act.put, List.getElem_toArray, List.getElem_cons_zero, List.getElem_cons_succ, List.setIfInBounds_toArray, List.set_cons_zero, List.set_cons_succ]
  refine plan_take (v := ?_) rfl (by rfl) (fun w' hw' => ?_) ?_
  rotate_left
  · go_simp; try with_reducible rfl
  try simp only [Act.put, List.getElem_toArray, List.getElem_cons_zero, List.getElem_cons_succ, List.setIfInBounds_toArray, List.set_cons_zero, List.set_cons_succ]
  refine plan_take (v := ?_) rfl (by rfl) (fun w' hw' => ?_) ?_
  rotate_left
  · go_simp; try with_reducible rfl
  try simp only [Act.put, List.getElem_toArray, List.getElem_cons_zero, List.getElem_cons_succ, List.setIfInBounds_toArray, List.set_cons_zero, List.set_cons_succ]
  refine plan_take (v := ?_) rfl (by rfl) (fun w' hw' => ?_) ?_
  rotate_left
  · go_simp; try with_reducible rfl
  try simp only [Act.put, List.getElem_toArray, List.getElem_cons_zero, List.getElem_cons_succ, List.setIfInBounds_toArray, List.set_cons_zero, List.set_cons_succ]
  refine plan_take (v := ?_) rfl (by rfl) (fun w' hw' => ?_) ?_
  rotate_left
  · go_simp; try with_reducible rfl
  try simp only [Act.put, List.getElem_toArray, List.getElem_cons_zero, List.getElem_cons_succ, List.setIfInBounds_toArray, List.set_cons_zero, List.set_cons_succ]
  refine plan_take rfl (by rfl) (fun w' hw' => exec_load_oL (q := ⟨k1, a1, b1, c1⟩) rfl rfl (OrdAt.below hO hw' hO.lt)) ?_
  simp only [ordA]
  try simp only [Act.put, List.getElem_toArray, List.getElem_cons_zero, List.getElem_cons_succ, List.setIfInBounds_toArray, List.set_cons_zero, List.set_cons_succ]
  refine plan_take rfl (by rfl) (fun w' hw' => exec_load_oL (q := ⟨k1, a1, b1, c1⟩) rfl rfl (OrdAt.below hO hw' hO.lt)) ?_
  simp only [ordA]
  try simp only [Act.put, List.getElem_toArray, List.getElem_cons_zero, List.getElem_cons_succ, List.setIfInBounds_toArray, List.set_cons_zero, List.set_cons_succ]
  refine plan_one rfl (by rfl) fun K hK => ?_
  go_simp
  go_at_call 8
  refine (HG1.out _ (hT4.go (Below.refl _ _).drew)).mono ?_
  rintro e w6 ⟨rfl, hb6⟩
  have hb56 : Below w5.heap.size w5 w6 := below_undrew hb6
  refine hK.out _ _ hb56 ?_
  clear hK K hb6
  try simp only [Act.put, List.getElem_toArray, List.getElem_cons_zero, List.getElem_cons_succ, List.setIfInBounds_toArray, List.set_cons_zero, List.set_cons_succ]
  refine plan_one rfl (by rfl) fun K hK => ?_
  go_simp
  go_at_call 9
  refine (HG2.out _ (hT4.go hb56)).mono ?_
  rintro e w7 ⟨rfl, hb7⟩
  have hb57 := below_line hb56 hb7
  refine hK.out _ _ hb57 ?_
  clear hK K hb7 hb56
  try simp only [Act.put, List.getElem_toArray, List.getElem_cons_zero, List.getElem_cons_succ, List.setIfInBounds_toArray, List.set_cons_zero, List.set_cons_succ]
  refine plan_take (v := ?_) rfl (by rfl) (fun w' hw' => ?_) ?_
  rotate_left
  · go_simp; try with_reducible rfl
  try simp only [Act.put, List.getElem_toArray, List.getElem_cons_zero, List.getElem_cons_succ, List.setIfInBounds_toArray, List.set_cons_zero, List.set_cons_succ]
  refine plan_take (v := ?_) rfl (by rfl) (fun w' hw' => ?_) ?_
  rotate_left
  · go_simp; try with_reducible rfl
  try simp only [Act.put, List.getElem_toArray, List.getElem_cons_zero, List.getElem_cons_succ, List.setIfInBounds_toArray, List.set_cons_zero, List.set_cons_succ]
  refine plan_take (v := ?_) rfl (by rfl) (fun w' hw' => ?_) ?_
  rotate_left
  · go_simp; try with_reducible rfl
  try simp only [Act.put, List.getElem_toArray, List.getElem_cons_zero, List.getElem_cons_succ, List.setIfInBounds_toArray, List.set_cons_zero, List.set_cons_succ]
  refine plan_one rfl (by rfl) fun K hK => ?_
  go_simp
  go_at_call 10
  refine (HLN.out _ (hT4.go hb57)).mono ?_
  rintro e w8 ⟨rfl, hb8⟩
  have hb58 := below_line hb57 hb8
  refine hK.out _ _ hb58 ?_
  clear hK K hb8 hb57
  try simp only [Act.put, List.getElem_toArray, List.getElem_cons_zero, List.getElem_cons_succ, List.setIfInBounds_toArray, List.set_cons_zero, List.set_cons_succ]
  refine plan_take (v := ?_) rfl (by rfl) (fun w' hw' => ?_) ?_
  rotate_left
  · go_simp; try with_reducible rfl
  try simp only [Act.put, List.getElem_toArray, List.getElem_cons_zero, List.getElem_cons_succ, List.setIfInBounds_toArray, List.set_cons_zero, List.set_cons_succ]
  refine plan_take (v := ?_) rfl (by rfl) (fun w' hw' => ?_) ?_
  rotate_left
  · go_simp; try with_reducible rfl
  try simp only [Act.put, List.getElem_toArray, List.getElem_cons_zero, List.getElem_cons_succ, List.setIfInBounds_toArray, List.set_cons_zero, List.set_cons_succ]
  refine plan_done (NoPanic.normal ?_)
  have hEND := (hT4.go hb58).below
  clear hT4 hb58
  go_wp2_with fail
  go_ret
  exact ⟨rfl, hEND⟩
end Go.Proofs.YtifmdkcpbajdcabDoor
