/- PortTells: what port answers of every port and ship, and of good ones, is what the document says. The law returns true for every input, and each argument reads behind the call as it read before. No condition. -/
import Derived.Test.YtifmdkcpbajdcaaOpenP
import Derived.Test.YtifmdkcpbajdcaaRows
import Derived.Test.YtifmdkcpbajdcaaOpenT
import Derived.Test.YtifmdkcpbajdcaaPortL5
namespace Go.Proofs.Ytifmdkcpbajdcaa.portTells
open Go.ChangeShapes Go.WideShapes Go.ChangeAt Go.RowKit Plain

theorem own : ownKnob Try.prog.godebug = none := by kernel_rfl
theorem laidOut : laidOutB Try.prog = true := by kernel_rfl
theorem read_port : Try.prog.readableRec 46 = true := by kernel_rfl
theorem row_port : 46 < Try.prog.types.size := of_decide_eq_true (by kernel_rfl)
theorem read_ship : Try.prog.readableRec 48 = true := by kernel_rfl
theorem row_ship : 48 < Try.prog.types.size := of_decide_eq_true (by kernel_rfl)

set_option maxRecDepth 100000 in
theorem lifted (os : Os) (started : os.Started) (H : Type) (enc : TypeId × Value → H) :
    ReturnsInHanded {} Try.checked os 8 .any (Rows.portTellsSpec.pre6 enc Try.prog Try.f8 Rows.portTellsRow.domain false) (Rows.portTellsSpec.post enc Try.prog Try.f8 false true false false) := by
  refine returnsInHanded_of_change_sized (C := Try.checked) own started (by kernel_rfl) Try.func8
    (ChangeSpec.witness6 (enc := enc) (C := Try.checked) false ⟨#[], #[.agg #[.int .i64 0, .slice none 0 0, .int .i64 0, .int .i64 0, .int .i64 0, .int .i64 0, .int .i64 0, .int .i64 0, .int .i64 0, .int .i64 0, .int .i64 0, .int .i64 0, .int .i64 0, .int .i64 0, .int .i64 0, .int .i64 0], .agg #[.int .i64 0, .int .i64 0, .int .i64 0, .int .i64 0, .int .i64 0, .int .i64 0], .int .i64 0], []⟩ 8 (by kernel_rfl) (by kernel_rfl) (by kernel_rfl) (by kernel_rfl)) ?_
  intro W base args ds gs before hval0 hW hcnd hsz _
  have hval : ∀ (j : Nat) t v, Try.f8.params[j]? = some t → args[j]? = some v → Value.okWide Try.prog W .any base t v := hval0
  have hW' := hW
  obtain ⟨p, q, hA0, hV, rfl, hfz, hnd⟩ := hW
  have hA : DataW.TrodAll enc Try.prog W 0 (fun _ => true) true Try.f8.params.toList args.toList ds p := hA0
  have hlt := hA.lt
  rw [Try.params8] at hA hval
  obtain ⟨v0, vs0, d0, ds0, pl0, q0, hargs, rfl, rfl, h0, r0⟩ := trodAll_cons hA
  obtain ⟨v1, vs1, d1, ds1, pl1, q1, rfl, rfl, rfl, h1, r1⟩ := trodAll_cons r0
  obtain ⟨v2, vs2, d2, ds2, pl2, q2, rfl, rfl, rfl, h2, r2⟩ := trodAll_cons r1
  obtain ⟨rfl, rfl, rfl⟩ := trodAll_nil r2
  obtain rfl : args = #[v0, v1, v2] := by cases args; simp_all
  obtain ⟨rfl, rfl⟩ := trodVars_none hV
  have ok0 := hval 0 46 v0 rfl rfl
  obtain ⟨p0, A0, c0, rfl, hp0, hin0⟩ := open_port ok0 h0
  have hb0 : ∀ x ∈ pl0, x.block < W.heap.size := fun x hx => hlt x (by simp [hx])
  have ok1 := hval 1 48 v1 rfl rfl
  obtain ⟨o1, rfl, ho1⟩ := open_ship ok1 h1
  have hb1 : ∀ x ∈ pl1, x.block < W.heap.size := fun x hx => hlt x (by simp [hx])
  have ok2 := hval 2 3 v2 rfl rfl
  obtain ⟨a2, rfl, rfl, rfl, w2⟩ := open_int Try.underlying3 ok2 h2
  have hr0 := port_room (j := 0) hsz (by rw [Try.params8]; rfl) rfl h0
  clear hA0 hval0
  simp only [List.append_nil] at hW'
  refine (portTells_walk p0 A0 c0 o1 a2 W hp0 ho1 (wf_range w2) hin0 hr0.1 hr0.2).mono fun e W' ⟨he, hb⟩ => ?_
  subst he
  have hargs := (trodAll_cons_mk (Below.trod laidOut read_port row_port h0 hb hb0) (trodAll_cons_mk (Below.trod laidOut read_ship row_ship h1 hb hb1) (trodAll_cons_mk (shut_int Try.underlying3 w2) trodAll_mk0)))
  exact ⟨_, rfl, _, _, _, [], _, [], hW', (trodAll_cons_mk (shut_bool Try.underlying4 _) trodAll_mk0), hargs, rfl, hb.frame _, fun h => by cases h⟩

theorem over : Rows.portTellsRow.holds Try.pinned (OpenSpec.ofChange Rows.portTellsSpec) :=
  OpenClaim.holds_of_wide 8 Try.f8 rfl rfl rfl rfl rfl rfl rfl ⟨rfl, rfl, rfl, rfl, rfl⟩ rfl rfl rfl rfl rfl (by kernel_rfl) Try.func8 (by kernel_rfl)
    (of_decide_eq_true (by kernel_rfl)) (by unfold Func.isWrapper; rw [if_neg (by decide +kernel)]; exact ⟨rfl, rfl⟩)
    (fun os started H enc _ => lifted os started H enc)

theorem proved : Rows.PortTellsSaid := over
#print axioms proved
end Go.Proofs.Ytifmdkcpbajdcaa.portTells
