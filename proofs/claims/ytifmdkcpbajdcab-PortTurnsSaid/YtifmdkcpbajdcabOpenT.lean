/- Arguments opened: what a port's ships take up. -/
import Derived.Test.YtifmdkcpbajdcabOpenP
import Derived.SizedLaws
set_option linter.unusedVariables false
set_option linter.unusedSimpArgs false
namespace Go.Proofs.Ytifmdkcpbajdcab
open Go.RowKit Go.ChangeShapes Go.WideShapes Go.ChangeAt Plain

set_option maxRecDepth 100000 in
/-- The room of the row in which a port's ships lie, and what it weighs. -/
theorem port_more {H : Type} {enc : TypeId × Value → H} {w : World} {base : Nat} {held : Bool} {p : Port} {A : Option Addr} {c : Nat} {d : DataW H} {pl : List MemPlace}
    (h : DataW.Trod enc Try.prog w base (fun _ => true) held 27 (.agg (portA p A c)) d pl) :
    p.ships.length ≤ c ∧ (p.ships.length = 0 ∨ ∃ n, n ∈ d.weights Try.prog 27 ∧ p.ships.length * 48 ≤ n) := by
  obtain ⟨f0, f1, f2, f3, f4, hu, ⟨o0, t0⟩, ⟨o1, t1⟩, ⟨o2, t2⟩, ⟨o3, t3⟩, ⟨o4, t4⟩⟩ := port_desc
  obtain ⟨z0, z1, z2, z3, z4⟩ := port_cells
  have hb : Try.prog.bytesOf 38 = 48 := by kernel_rfl
  obtain ⟨fuel, hf⟩ := h
  obtain ⟨xs, n, _, hx, hl, hlen, hfd⟩ := DataW.trod_struct hu hf
  have hx5 : xs.length = 5 := hlen
  have g1 := hfd 1 f1 rfl
  rw [o1, t1, z2, List.getElem?_eq_getElem (by omega)] at g1
  have e1 : List.take 1 (List.drop 1 (Value.agg (portA p A c)).cells.toList) = [.slice A p.ships.length c] := rfl
  rw [e1] at g1
  injection hx with hx1 hx2
  rcases Deep.open_slice Try.underlying22 g1 with ⟨hcs, _⟩ | ⟨a, len, cap, m, k, D, Pl, hcs, _, hlc, hcm, hmm, hx', _⟩
  · injection hcs with e _
    injection e with e1 e2 e3
    exact ⟨by omega, .inl e2⟩
  · injection hcs with e _
    injection e with e1 e2 e3
    refine ⟨by omega, .inr ⟨(len + (m - len)) * 48, ?_, by rw [e2]; exact Nat.mul_le_mul_right _ (by omega)⟩⟩
    rw [hx1]
    match xs, hx5 with
    | [x0, x1, x2, x3, x4], _ =>
      have hx1' : x1 = _ := hx'
      simp only [List.map_cons, List.map_nil, DataW.weights, hu]
      rw [hx1']
      simp only [DataW.weightsEach, DataW.weights, t1, List.mem_append, Try.underlying22, List.mem_cons, List.length_map, List.length_range, hb]
      simp
end Go.Proofs.Ytifmdkcpbajdcab

/- Arguments opened: a ship; what a port's ships take up, by the row's reach. -/
namespace Go.Proofs.Ytifmdkcpbajdcab
open Go.RowKit Go.ChangeShapes Go.WideShapes Go.ChangeAt Plain

set_option maxRecDepth 100000 in
/-- An argument that is a ship. -/
theorem open_ship {H : Type} {enc : TypeId × Value → H} {w : World} {base : Nat} {held : Bool} {r : Reach} {b0 : Nat} {v : Value} {d : DataW H} {pl : List MemPlace}
    (hv : Value.okWide Try.prog w r b0 38 v) (h : DataW.Trod enc Try.prog w base (fun _ => true) held 38 v d pl) :
    ∃ o : Ship, v = .agg (shipV o) ∧ ShipWf o := by
  obtain ⟨fs, s1, s2, s3, s4⟩ := ship_fields
  obtain ⟨cs, rfl, _⟩ := okWide_struct s1 hv
  obtain ⟨fuel, hf⟩ := h
  obtain ⟨hl, f, hg⟩ := trod_ints s1 s2 s3 hf
  rw [s4] at hl hg
  obtain ⟨a0, b0'⟩ := hg 0 (by omega)
  obtain ⟨a1, b1⟩ := hg 1 (by omega)
  obtain ⟨a2, b2⟩ := hg 2 (by omega)
  obtain ⟨a3, b3⟩ := hg 3 (by omega)
  obtain ⟨a4, b4⟩ := hg 4 (by omega)
  obtain ⟨a5, b5⟩ := hg 5 (by omega)
  simp only [Value.cells] at hl a0 a1 a2 a3 a4 a5
  refine ⟨⟨f 0, f 1, f 2, f 3, f 4, f 5⟩, ?_, wf_range b0', wf_range b1, wf_range b2, wf_range b3, wf_range b4, wf_range b5⟩
  congr 1
  apply Array.ext'
  match hcs : cs.toList, hl with
  | [c0, c1, c2, c3, c4, c5], _ =>
    rw [hcs] at a0 a1 a2 a3 a4 a5
    simp only [List.getElem?_cons_zero, List.getElem?_cons_succ, Option.some.injEq] at a0 a1 a2 a3 a4 a5
    simp [shipV, a0, a1, a2, a3, a4, a5]

theorem port_room {H : Type} {enc : TypeId × Value → H} {w : World} {base j : Nat} {held : Bool} {p : Port} {A : Option Addr} {c : Nat} {d : DataW H} {pl : List MemPlace} {ts : List TypeId} {ds : List (DataW H)}
    (hz : (DataW.weightsEach Try.prog ts ds).all (· ≤ reachBytes) = true) (h1 : ts[j]? = some 27) (h2 : ds[j]? = some d)
    (h : DataW.Trod enc Try.prog w base (fun _ => true) held 27 (.agg (portA p A c)) d pl) : p.ships.length ≤ c ∧ p.ships.length * 48 ≤ 140737488355328 := by
  obtain ⟨g1, g2⟩ := port_more h
  refine ⟨g1, ?_⟩
  rcases g2 with g2 | ⟨n, hn, hle⟩
  · rw [g2]; decide
  · have := List.all_eq_true.1 hz _ (DataW.weights_mem_each h1 h2 n hn)
    have hr : reachBytes ≤ 140737488355328 := by decide
    simp at this
    omega
end Go.Proofs.Ytifmdkcpbajdcab
