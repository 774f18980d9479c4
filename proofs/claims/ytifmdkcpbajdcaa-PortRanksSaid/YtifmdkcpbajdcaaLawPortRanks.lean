/- PortRanks: an order about one that waits moves nobody who is ahead of it. The law returns true for every input, and each argument reads behind the call as it read before. No condition. -/
import Derived.Test.YtifmdkcpbajdcaaOpenP
import Derived.Test.YtifmdkcpbajdcaaRows
import Derived.Test.YtifmdkcpbajdcaaTellC
import Derived.Test.YtifmdkcpbajdcaaPortsW
import Derived.Test.YtifmdkcpbajdcaaPortL3b
namespace Go.Proofs.Ytifmdkcpbajdcaa
open Go.RowKit Go.ChangeShapes Go.WideShapes Go.ChangeAt Plain

set_option maxRecDepth 100000 in
theorem order_fields : ∃ fs, Try.prog.underlying 61 = some (.struct fs) ∧ intFields Try.prog fs = true ∧ Try.prog.cellsOf 61 = fs.size ∧ fs.size = 4 :=
  ⟨_, Try.underlying61, by kernel_rfl, by kernel_rfl, rfl⟩

set_option maxRecDepth 100000 in
/-- An argument that is an order. -/
theorem open_order {H : Type} {enc : TypeId × Value → H} {w : World} {base : Nat} {held : Bool} {r : Reach} {b0 : Nat} {v : Value} {d : DataW H} {pl : List MemPlace}
    (hv : Value.okWide Try.prog w r b0 61 v) (h : DataW.Trod enc Try.prog w base (fun _ => true) held 61 v d pl) :
    ∃ o : Order, v = .agg (orderA o) ∧ (i64 o.kind ∧ i64 o.a ∧ i64 o.b ∧ i64 o.c) := by
  obtain ⟨fs, s1, s2, s3, s4⟩ := order_fields
  obtain ⟨cs, rfl, _⟩ := okWide_struct s1 hv
  obtain ⟨fuel, hf⟩ := h
  obtain ⟨hl, f, hg⟩ := trod_ints s1 s2 s3 hf
  rw [s4] at hl hg
  obtain ⟨a0, b0'⟩ := hg 0 (by omega)
  obtain ⟨a1, b1⟩ := hg 1 (by omega)
  obtain ⟨a2, b2⟩ := hg 2 (by omega)
  obtain ⟨a3, b3⟩ := hg 3 (by omega)
  simp only [Value.cells] at hl a0 a1 a2 a3
  refine ⟨⟨f 0, f 1, f 2, f 3⟩, ?_, wf_range b0', wf_range b1, wf_range b2, wf_range b3⟩
  congr 1
  apply Array.ext'
  match hcs : cs.toList, hl with
  | [c0, c1, c2, c3], _ =>
    rw [hcs] at a0 a1 a2 a3
    simp only [List.getElem?_cons_zero, List.getElem?_cons_succ, Option.some.injEq] at a0 a1 a2 a3
    simp [orderA, a0, a1, a2, a3]
end Go.Proofs.Ytifmdkcpbajdcaa

namespace Go.Proofs.Ytifmdkcpbajdcaa.portRanks
open Go.ChangeShapes Go.WideShapes Go.ChangeAt Go.RowKit Plain

theorem own : ownKnob Try.prog.godebug = none := by kernel_rfl
theorem laidOut : laidOutB Try.prog = true := by kernel_rfl
theorem read_order : Try.prog.readableRec 61 = true := by kernel_rfl
theorem row_order : 61 < Try.prog.types.size := of_decide_eq_true (by kernel_rfl)
theorem read_port : Try.prog.readableRec 46 = true := by kernel_rfl
theorem row_port : 46 < Try.prog.types.size := of_decide_eq_true (by kernel_rfl)

set_option maxRecDepth 100000 in
theorem lifted (os : Os) (started : os.Started) (H : Type) (enc : TypeId × Value → H) :
    ReturnsInHanded {} Try.checked os 10 .any (Rows.portRanksSpec.pre6 enc Try.prog Try.f10 Rows.portRanksRow.domain false) (Rows.portRanksSpec.post enc Try.prog Try.f10 false true false false) := by
  refine returnsInHanded_of_change_sized (C := Try.checked) own started (by kernel_rfl) Try.func10
    (ChangeSpec.witness6 (enc := enc) (C := Try.checked) false ⟨#[], #[.agg #[.int .i64 0, .slice none 0 0, .int .i64 0, .int .i64 0, .int .i64 0, .int .i64 0, .int .i64 0, .int .i64 0, .int .i64 0, .int .i64 0, .int .i64 0, .int .i64 0, .int .i64 0, .int .i64 0, .int .i64 0, .int .i64 0], .agg #[.int .i64 0, .int .i64 0, .int .i64 0, .int .i64 0]], []⟩ 8 (by kernel_rfl) (by kernel_rfl) (by kernel_rfl) (by kernel_rfl)) ?_
  intro W base args ds gs before hval0 hW hcnd hsz _
  have hval : ∀ (j : Nat) t v, Try.f10.params[j]? = some t → args[j]? = some v → Value.okWide Try.prog W .any base t v := hval0
  have hW' := hW
  obtain ⟨p, q, hA0, hV, rfl, hfz, hnd⟩ := hW
  have hA : DataW.TrodAll enc Try.prog W 0 (fun _ => true) true Try.f10.params.toList args.toList ds p := hA0
  have hlt := hA.lt
  rw [Try.params10] at hA hval
  obtain ⟨v0, vs0, d0, ds0, pl0, q0, hargs, rfl, rfl, h0, r0⟩ := trodAll_cons hA
  obtain ⟨v1, vs1, d1, ds1, pl1, q1, rfl, rfl, rfl, h1, r1⟩ := trodAll_cons r0
  obtain ⟨rfl, rfl, rfl⟩ := trodAll_nil r1
  obtain rfl : args = #[v0, v1] := by cases args; simp_all
  obtain ⟨rfl, rfl⟩ := trodVars_none hV
  have ok0 := hval 0 46 v0 rfl rfl
  obtain ⟨p0, A0, c0, rfl, hp0, hin0⟩ := open_port ok0 h0
  have hb0 : ∀ x ∈ pl0, x.block < W.heap.size := fun x hx => hlt x (by simp [hx])
  have ok1 := hval 1 61 v1 rfl rfl
  obtain ⟨o1, rfl, ho1⟩ := open_order ok1 h1
  have hb1 : ∀ x ∈ pl1, x.block < W.heap.size := fun x hx => hlt x (by simp [hx])
  clear hA0 hval0
  simp only [List.append_nil] at hW'
  refine (portRanks_walk ports_keep p0 A0 c0 o1 W hp0 hin0).mono fun e W' ⟨he, hb⟩ => ?_
  subst he
  have hargs := (trodAll_cons_mk (Below.trod laidOut read_port row_port h0 hb hb0) (trodAll_cons_mk (Below.trod laidOut read_order row_order h1 hb hb1) trodAll_mk0))
  exact ⟨_, rfl, _, _, _, [], _, [], hW', (trodAll_cons_mk (shut_bool Try.underlying4 _) trodAll_mk0), hargs, rfl, hb.frame _, fun h => by cases h⟩

theorem over : Rows.portRanksRow.holds Try.pinned (OpenSpec.ofChange Rows.portRanksSpec) :=
  OpenClaim.holds_of_wide 10 Try.f10 rfl rfl rfl rfl rfl rfl rfl ⟨rfl, rfl, rfl, rfl, rfl⟩ rfl rfl rfl rfl rfl (by kernel_rfl) Try.func10 (by kernel_rfl)
    (of_decide_eq_true (by kernel_rfl)) (by unfold Func.isWrapper; rw [if_neg (by decide +kernel)]; exact ⟨rfl, rfl⟩)
    (fun os started H enc _ => lifted os started H enc)

theorem proved : Rows.PortRanksSaid := over
#print axioms proved
end Go.Proofs.Ytifmdkcpbajdcaa.portRanks
