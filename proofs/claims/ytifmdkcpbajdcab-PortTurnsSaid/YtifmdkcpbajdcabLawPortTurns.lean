/- PortTurns: what Tell, Due and Later answer of every port, order and plan is what the document says. The law returns true for every input, and each argument reads behind the call as it read before. No condition. -/
import Derived.Test.YtifmdkcpbajdcabOpenP
import Derived.Test.YtifmdkcpbajdcabRows
import Derived.Test.YtifmdkcpbajdcabOpenT
import Derived.Test.YtifmdkcpbajdcabOpenO
import Derived.Test.YtifmdkcpbajdcabTurnsL
import Derived.ChangeSlices
set_option linter.unusedVariables false
set_option linter.unusedSimpArgs false
namespace Go.Proofs.Ytifmdkcpbajdcab.portTurns
open Go.ChangeShapes Go.WideShapes Go.ChangeAt Go.RowKit Plain

theorem spot_noneT {w : World} {a : Addr} {v : Value} (h : w.cell? a = some v) : a.spot = none := by
  unfold World.cell? at h
  split at h
  · split at h
    · cases h
    · cases hs : a.spot with
      | none => rfl
      | some s => rename_i hh; simp [hs] at hh
  · cases h

set_option maxRecDepth 100000 in
/-- An argument that is a list of numbers. -/
theorem open_plan {H : Type} {enc : TypeId × Value → H} {w : World} {base : Nat} {held : Bool} {r : Reach} {b0 : Nat} {v : Value} {d : DataW H} {p : List MemPlace}
    (hv : Value.okWide Try.prog w r b0 30 v) (h : DataW.Trod enc Try.prog w base (fun _ => true) held 30 v d p) :
    ∃ (A : Option Addr) (c : Nat) (l : List Int), v = .slice A l.length c ∧ Sl w 1 A l.length (l.map (Value.int .i64)) ∧ ∃ elems spares, (d = .nil ∧ l.length = 0) ∨ (d = .slice elems spares ∧ elems.length = l.length) := by
  obtain ⟨a0, len, cap, rfl⟩ := okWide_slice Try.underlying30 hv
  obtain ⟨fuel, hf⟩ := h
  rcases open_ints Try.underlying30 Try.underlying3 (by kernel_rfl) hf with ⟨hcs, hx⟩ | ⟨a, len', cap', zs, hcs, _, hle, hm, hsl, hx, hcell, _⟩
  · simp only [Value.cells, List.cons.injEq, and_true] at hcs
    injection hcs with e1 e2 e3
    subst e1; subst e2; subst e3
    injection hx with hx1 _
    exact ⟨none, 0, [], rfl, ⟨rfl, fun h => absurd h (by simp)⟩, [], [], .inl ⟨hx1, rfl⟩⟩
  · simp only [Value.cells, List.cons.injEq, and_true] at hcs
    injection hcs with e1 e2 e3
    subst e1; subst e2; subst e3
    rw [if_pos rfl] at hsl
    have hlen : (zs.take len).length = len := by rw [List.length_take]; omega
    injection hx with hx1 _
    refine ⟨some a, cap, zs.take len, by rw [hlen], ⟨by simp, fun hn => ?_⟩, _, _, .inr ⟨hx1, by simp [lits]⟩⟩
    rw [hlen] at hn
    have h0 := hcell 0 (by omega)
    have e0 : a.add 0 = a := by unfold Addr.add; simp
    rw [e0] at h0
    have hsp := spot_noneT h0
    obtain ⟨b, off, el⟩ := a
    dsimp only at hsp
    subst hsp
    refine ⟨b, off, rfl, fun j hj => ?_⟩
    rw [hlen] at hj
    have hadd : (⟨b, off, none⟩ : Addr).add j = ⟨b, off + j, none⟩ := by unfold Addr.add; split <;> simp_all
    have h1 := hcell j (by omega)
    rw [hadd] at h1
    rw [h1, List.getElem?_map, List.getElem?_take, if_pos (by omega), List.getElem?_eq_getElem (by omega), List.getD_eq_getElem?_getD, List.getElem?_eq_getElem (by omega)]
    rfl

theorem own : ownKnob Try.prog.godebug = none := by kernel_rfl
theorem laidOut : laidOutB Try.prog = true := by kernel_rfl
theorem read_port : Try.prog.readableRec 27 = true := by kernel_rfl
theorem row_port : 27 < Try.prog.types.size := of_decide_eq_true (by kernel_rfl)
theorem read_ord : Try.prog.readableRec 45 = true := by kernel_rfl
theorem row_ord : 45 < Try.prog.types.size := of_decide_eq_true (by kernel_rfl)
theorem read_ints : Try.prog.readableRec 30 = true := by kernel_rfl
theorem row_ints : 30 < Try.prog.types.size := of_decide_eq_true (by kernel_rfl)

set_option maxRecDepth 100000 in
theorem lifted (os : Os) (started : os.Started) (H : Type) (enc : TypeId × Value → H) :
    ReturnsInHanded {} Try.checked os 7 .any (Rows.portTurnsSpec.pre6 enc Try.prog Try.f7 Rows.portTurnsRow.domain false) (Rows.portTurnsSpec.post enc Try.prog Try.f7 false true false false) := by
  refine returnsInHanded_of_change_sized (C := Try.checked) own started (by kernel_rfl) Try.func7
    (ChangeSpec.witness6 (enc := enc) (C := Try.checked) false ⟨#[], #[.agg #[.int .i64 0, .slice none 0 0, .int .i64 0, .int .i64 0, .int .i64 0, .int .i64 0, .int .i64 0, .int .i64 0, .int .i64 0, .int .i64 0, .int .i64 0, .int .i64 0, .int .i64 0, .int .i64 0, .int .i64 0, .int .i64 0], .agg #[.int .i64 0, .int .i64 0, .int .i64 0, .int .i64 0], .slice none 0 0], []⟩ 8 (by kernel_rfl) (by kernel_rfl) (by kernel_rfl) (by kernel_rfl)) ?_
  intro W base args ds gs before hval0 hW hcnd hsz _
  have hval : ∀ (j : Nat) t v, Try.f7.params[j]? = some t → args[j]? = some v → Value.okWide Try.prog W .any base t v := hval0
  have hW' := hW
  obtain ⟨p, q, hA0, hV, rfl, hfz, hnd⟩ := hW
  have hA : DataW.TrodAll enc Try.prog W 0 (fun _ => true) true Try.f7.params.toList args.toList ds p := hA0
  have hlt := hA.lt
  rw [Try.params7] at hA hval
  obtain ⟨v0, vs0, d0, ds0, pl0, q0, hargs, rfl, rfl, h0, r0⟩ := trodAll_cons hA
  obtain ⟨v1, vs1, d1, ds1, pl1, q1, rfl, rfl, rfl, h1, r1⟩ := trodAll_cons r0
  obtain ⟨v2, vs2, d2, ds2, pl2, q2, rfl, rfl, rfl, h2, r2⟩ := trodAll_cons r1
  obtain ⟨rfl, rfl, rfl⟩ := trodAll_nil r2
  obtain rfl : args = #[v0, v1, v2] := by cases args; simp_all
  obtain ⟨rfl, rfl⟩ := trodVars_none hV
  have ok0 := hval 0 27 v0 rfl rfl
  obtain ⟨p0, A0, c0, rfl, hp0, hin0⟩ := open_port ok0 h0
  have hb0 : ∀ x ∈ pl0, x.block < W.heap.size := fun x hx => hlt x (by simp [hx])
  have ok1 := hval 1 45 v1 rfl rfl
  obtain ⟨o1, rfl, ho1⟩ := open_order ok1 h1
  have hb1 : ∀ x ∈ pl1, x.block < W.heap.size := fun x hx => hlt x (by simp [hx])
  have ok2 := hval 2 30 v2 rfl rfl
  obtain ⟨A2, c2, l2, rfl, hsl2, elems, spares, hd⟩ := open_plan ok2 h2
  have hb2 : ∀ x ∈ pl2, x.block < W.heap.size := fun x hx => hlt x (by simp [hx])
  have hr2 : l2.length * 8 ≤ 140737488355328 := by
    rcases hd with ⟨_, h0⟩ | ⟨hd, hl⟩
    · rw [h0]; omega
    · have hs := hsz
      rw [Try.params7] at hs
      have := sized_slice hs (j := 2) rfl (by rw [hd]; rfl) Try.underlying30
      rw [show Try.checked.prog.bytesOf 3 = 8 by kernel_rfl] at this
      unfold reachBytes at this
      omega
  have hr0 := port_room (j := 0) (by rw [Try.params7] at hsz; exact hsz) rfl rfl h0
  clear hA0 hval0
  simp only [List.append_nil] at hW'
  refine (portTurns_walk p0 A0 c0 o1 l2 A2 c2 W hp0 hin0 hr0.1 hr0.2 hsl2 hr2).mono fun e W' ⟨he, hb⟩ => ?_
  subst he
  have hargs := (trodAll_cons_mk (Below.trod laidOut read_port row_port h0 hb hb0) (trodAll_cons_mk (Below.trod laidOut read_ord row_ord h1 hb hb1) (trodAll_cons_mk (Below.trod laidOut read_ints row_ints h2 hb hb2) trodAll_mk0)))
  exact ⟨_, rfl, _, _, _, [], _, [], hW', (trodAll_cons_mk (shut_bool Try.underlying4 _) trodAll_mk0), hargs, rfl, hb.frame _, fun h => by cases h⟩

theorem over : Rows.portTurnsRow.holds Try.pinned (OpenSpec.ofChange Rows.portTurnsSpec) :=
  OpenClaim.holds_of_wide 7 Try.f7 rfl rfl rfl rfl rfl rfl rfl ⟨rfl, rfl, rfl, rfl, rfl⟩ rfl rfl rfl rfl rfl (by kernel_rfl) Try.func7 (by kernel_rfl)
    (of_decide_eq_true (by kernel_rfl)) (by unfold Func.isWrapper; rw [if_neg (by decide +kernel)]; exact ⟨rfl, rfl⟩)
    (fun os started H enc _ => lifted os started H enc)

theorem proved : Rows.PortTurnsSaid := over
#print axioms proved
end Go.Proofs.Ytifmdkcpbajdcab.portTurns
