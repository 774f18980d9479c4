/- MendPlans: for every two good ports, the plan of the one mended for the other one is that one's plan. The law returns true for every input, and each argument reads behind the call as it read before. No condition. -/
import Derived.Test.YtifmdkcpbajdcabOpenP
import Derived.Test.YtifmdkcpbajdcabRows
import Derived.Test.YtifmdkcpbajdcabOpenT
import Derived.Test.YtifmdkcpbajdcabMendLB
namespace Go.Proofs.Ytifmdkcpbajdcab.mendPlans
open Go.ChangeShapes Go.WideShapes Go.ChangeAt Go.RowKit Plain

theorem own : ownKnob Try.prog.godebug = none := by kernel_rfl
theorem laidOut : laidOutB Try.prog = true := by kernel_rfl
theorem read_port : Try.prog.readableRec 27 = true := by kernel_rfl
theorem row_port : 27 < Try.prog.types.size := of_decide_eq_true (by kernel_rfl)

set_option maxRecDepth 100000 in
theorem lifted (os : Os) (started : os.Started) (H : Type) (enc : TypeId × Value → H) :
    ReturnsInHanded {} Try.checked os 4 .any (Rows.mendPlansSpec.pre6 enc Try.prog Try.f4 Rows.mendPlansRow.domain false) (Rows.mendPlansSpec.post enc Try.prog Try.f4 false true false false) := by
  refine returnsInHanded_of_change_sized (C := Try.checked) own started (by kernel_rfl) Try.func4
    (ChangeSpec.witness6 (enc := enc) (C := Try.checked) false ⟨#[], #[.agg #[.int .i64 0, .slice none 0 0, .int .i64 0, .int .i64 0, .int .i64 0, .int .i64 0, .int .i64 0, .int .i64 0, .int .i64 0, .int .i64 0, .int .i64 0, .int .i64 0, .int .i64 0, .int .i64 0, .int .i64 0, .int .i64 0], .agg #[.int .i64 0, .slice none 0 0, .int .i64 0, .int .i64 0, .int .i64 0, .int .i64 0, .int .i64 0, .int .i64 0, .int .i64 0, .int .i64 0, .int .i64 0, .int .i64 0, .int .i64 0, .int .i64 0, .int .i64 0, .int .i64 0]], []⟩ 8 (by kernel_rfl) (by kernel_rfl) (by kernel_rfl) (by kernel_rfl)) ?_
  intro W base args ds gs before hval0 hW hcnd hsz _
  have hval : ∀ (j : Nat) t v, Try.f4.params[j]? = some t → args[j]? = some v → Value.okWide Try.prog W .any base t v := hval0
  have hW' := hW
  obtain ⟨p, q, hA0, hV, rfl, hfz, hnd⟩ := hW
  have hA : DataW.TrodAll enc Try.prog W 0 (fun _ => true) true Try.f4.params.toList args.toList ds p := hA0
  have hlt := hA.lt
  rw [Try.params4] at hA hval
  obtain ⟨v0, vs0, d0, ds0, pl0, q0, hargs, rfl, rfl, h0, r0⟩ := trodAll_cons hA
  obtain ⟨v1, vs1, d1, ds1, pl1, q1, rfl, rfl, rfl, h1, r1⟩ := trodAll_cons r0
  obtain ⟨rfl, rfl, rfl⟩ := trodAll_nil r1
  obtain rfl : args = #[v0, v1] := by cases args; simp_all
  obtain ⟨rfl, rfl⟩ := trodVars_none hV
  have ok0 := hval 0 27 v0 rfl rfl
  obtain ⟨p0, A0, c0, rfl, hp0, hin0⟩ := open_port ok0 h0
  have hb0 : ∀ x ∈ pl0, x.block < W.heap.size := fun x hx => hlt x (by simp [hx])
  have ok1 := hval 1 27 v1 rfl rfl
  obtain ⟨p1, A1, c1, rfl, hp1, hin1⟩ := open_port ok1 h1
  have hb1 : ∀ x ∈ pl1, x.block < W.heap.size := fun x hx => hlt x (by simp [hx])
  have hr0 := port_room (j := 0) hsz (by rw [Try.params4]; rfl) rfl h0
  have hr1 := port_room (j := 1) hsz (by rw [Try.params4]; rfl) rfl h1
  clear hA0 hval0
  simp only [List.append_nil] at hW'
  refine (mendPlans_walk mends_law p0 p1 A0 A1 c0 c1 W hp0 hp1 hin0 hin1 hr0.1 hr1.1 hr0.2 hr1.2).mono fun e W' ⟨he, hb⟩ => ?_
  subst he
  have hargs := (trodAll_cons_mk (Below.trod laidOut read_port row_port h0 hb hb0) (trodAll_cons_mk (Below.trod laidOut read_port row_port h1 hb hb1) trodAll_mk0))
  exact ⟨_, rfl, _, _, _, [], _, [], hW', (trodAll_cons_mk (shut_bool Try.underlying4 _) trodAll_mk0), hargs, rfl, hb.frame _, fun h => by cases h⟩

theorem over : Rows.mendPlansRow.holds Try.pinned (OpenSpec.ofChange Rows.mendPlansSpec) :=
  OpenClaim.holds_of_wide 4 Try.f4 rfl rfl rfl rfl rfl rfl rfl ⟨rfl, rfl, rfl, rfl, rfl⟩ rfl rfl rfl rfl rfl (by kernel_rfl) Try.func4 (by kernel_rfl)
    (of_decide_eq_true (by kernel_rfl)) (by unfold Func.isWrapper; rw [if_neg (by decide +kernel)]; exact ⟨rfl, rfl⟩)
    (fun os started H enc _ => lifted os started H enc)

theorem proved : Rows.MendPlansSaid := over
#print axioms proved
end Go.Proofs.Ytifmdkcpbajdcab.mendPlans
