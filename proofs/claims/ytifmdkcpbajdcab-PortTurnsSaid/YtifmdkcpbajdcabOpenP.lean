/- Arguments opened: ports, ships, orders. -/
import Derived.Test.YtifmdkcpbajdcabOpen
import Derived.Test.YtifmdkcpbajdcabPortA
set_option linter.unusedVariables false
set_option linter.unusedSimpArgs false
namespace Go.Proofs.Ytifmdkcpbajdcab
open Go.RowKit Go.ChangeShapes Go.WideShapes Go.ChangeAt Plain

theorem wf_range {n : Int} (h : (Lit.int .i64 n).wf = true) : i64 n := by
  simp [Lit.wf, IntKind.min, IntKind.max, IntKind.signed, IntKind.bits] at h
  unfold i64; omega

section
variable {H : Type} {enc : TypeId × Value → H} {P : Program} {w : World} {base : Nat} {held : Bool}

/-- A cell that holds a slice of structs of k integers. -/
theorem open_int_cells {t e : TypeId} {fs : Array Field} {k fuel : Nat} {cs : List Value} {x : DataW H × List MemPlace} (ht : P.underlying t = some (.slice e)) (he : P.underlying e = some (.struct fs))
    (hi : intFields P fs = true) (hC : P.cellsOf e = fs.size) (hk : fs.size = k) (hk0 : 0 < k) (hf : DataW.trod enc P w base (fun _ => true) held fuel t cs = some x) :
    ∃ (A : Option Addr) (n c : Nat) (f : Nat → Nat → Int), cs = [.slice A n c] ∧ n ≤ maxLen ∧ (∀ i j, i < n → j < k → (Lit.int .i64 (f i j)).wf = true) ∧
      (0 < n → ∃ b off, A = some ⟨b, off, none⟩ ∧ ∀ i j, i < n → j < k → w.cell? ⟨b, off + (i * k + j), none⟩ = some (.int .i64 (f i j))) := by
  rcases Deep.open_slice ht hf with ⟨hcs, hx⟩ | ⟨a, len, cap, m, n, D, Pl, hcs, _, hl, hm, hmm, hx, hel⟩
  · exact ⟨none, 0, 0, fun _ _ => 0, hcs, Nat.zero_le _, fun i j hi => absurd hi (by omega), fun h => absurd h (by omega)⟩
  · simp only [if_true] at hmm
    subst hmm
    have each : ∀ i, i < len → ∃ g : Nat → Int, ∀ j, j < k → w.cell? (a.add (i * k + j)) = some (.int .i64 (g j)) ∧ (Lit.int .i64 (g j)).wf = true := fun i hi' => by
      obtain ⟨cs', hc, ht'⟩ := hel i (by omega)
      rw [hC, hk] at hc
      obtain ⟨hl', g, hg⟩ := trod_ints he hi hC ht'
      obtain ⟨_, _, hat⟩ := World.cells?_some hc
      refine ⟨g, fun j hj => ?_⟩
      obtain ⟨g1, g2⟩ := hg j (by omega)
      have := hat j hj
      rw [g1] at this
      have ea : (a.add (i * k)).add j = a.add (i * k + j) := by
        unfold Addr.add
        by_cases h1 : i * k = 0 <;> by_cases h2 : j = 0 <;> simp [h1, h2, Nat.add_assoc]
      rw [ea] at this
      exact ⟨this, g2⟩
    refine ⟨some a, len, _, fun i => if hi' : i < len then (each i hi').choose else fun _ => 0, hcs, by omega, fun i j hi' hj => ?_, fun hn => ?_⟩
    · simp only [hi', dif_pos]; exact ((each i hi').choose_spec j hj).2
    · have h0 := ((each 0 hn).choose_spec 0 hk0).1
      have hspot : a.spot = none := by
        have e0 : a.add (0 * k + 0) = a := by unfold Addr.add; simp
        rw [e0] at h0
        unfold World.cell? at h0
        split at h0
        · split at h0
          · cases h0
          · cases hs : a.spot with
            | none => rfl
            | some s => rename_i hh; simp [hs] at hh
        · cases h0
      refine ⟨a.block, a.off, ?_, fun i j hi' hj => ?_⟩
      · obtain ⟨b, o, s⟩ := a; simp only at hspot; subst hspot; rfl
      · simp only [hi', dif_pos]
        have := ((each i hi').choose_spec j hj).1
        have ea : a.add (i * k + j) = ⟨a.block, a.off + (i * k + j), none⟩ := by
          obtain ⟨b, o, s⟩ := a; simp only at hspot; subst hspot
          unfold Addr.add; split <;> simp_all
        rw [ea] at this; exact this
end

set_option maxRecDepth 100000 in
theorem ship_fields : ∃ fs, Try.prog.underlying 38 = some (.struct fs) ∧ intFields Try.prog fs = true ∧ Try.prog.cellsOf 38 = fs.size ∧ fs.size = 6 :=
  ⟨_, Try.underlying38, by kernel_rfl, by kernel_rfl, rfl⟩
set_option maxRecDepth 100000 in
theorem kept_fields : ∃ fs, Try.prog.underlying 24 = some (.struct fs) ∧ intFields Try.prog fs = true ∧ Try.prog.cellsOf 24 = fs.size ∧ fs.size = 3 :=
  ⟨_, Try.underlying24, by kernel_rfl, by kernel_rfl, rfl⟩

def mkShip (f : Nat → Int) : Ship := ⟨f 0, f 1, f 2, f 3, f 4, f 5⟩

theorem mk_cells (f : Nat → Nat → Int) (n : Nat) : ∀ j i, j < n → i < 6 → (shipCells ((List.range n).map fun j => mkShip (f j)))[j * 6 + i]? = some (.int .i64 (f j i)) := fun j i hj hi => by
  rw [shipCells_get _ j i (by simpa using hj) hi]
  have e : ((List.range n).map fun j => mkShip (f j)).getD j Ship.zero = mkShip (f j) := by
    rw [List.getD_eq_getElem?_getD, List.getElem?_map, List.getElem?_range hj]; rfl
  rw [e]
  rcases (by omega : i = 0 ∨ i = 1 ∨ i = 2 ∨ i = 3 ∨ i = 4 ∨ i = 5) with rfl | rfl | rfl | rfl | rfl | rfl <;> rfl

/-- A cell that holds ships. -/
theorem open_ships {H : Type} {enc : TypeId × Value → H} {w : World} {base fuel : Nat} {held : Bool} {cs : List Value} {x : DataW H × List MemPlace}
    (hf : DataW.trod enc Try.prog w base (fun _ => true) held fuel 22 cs = some x) :
    ∃ (A : Option Addr) (c : Nat) (l : List Ship), cs = [.slice A l.length c] ∧ l.length ≤ maxLen ∧ Sl w 6 A l.length (shipCells l) ∧ ∀ i, i < l.length → ShipWf (l.getD i Ship.zero) := by
  obtain ⟨fs, s1, s2, s3, s4⟩ := ship_fields
  obtain ⟨A, n, c, f, rfl, hm, hwf, hc⟩ := open_int_cells (k := 6) Try.underlying22 s1 s2 s3 s4 (by omega) hf
  have hlen : ((List.range n).map fun j => mkShip (f j)).length = n := by simp
  refine ⟨A, c, (List.range n).map fun j => mkShip (f j), by rw [hlen], by rw [hlen]; exact hm, ⟨by rw [shipCells_len], fun hn => ?_⟩, fun i hi => ?_⟩
  · rw [hlen] at hn
    obtain ⟨b, off, e, hcell⟩ := hc (by omega)
    refine ⟨b, off, e, fun j hj => ?_⟩
    rw [hlen] at hj
    have := mk_cells f n (j / 6) (j % 6) (by omega) (by omega)
    rw [show j / 6 * 6 + j % 6 = j by omega] at this
    rw [this]
    have h2 := hcell (j / 6) (j % 6) (by omega) (by omega)
    rwa [show off + (j / 6 * 6 + j % 6) = off + j by omega] at h2
  · rw [hlen] at hi
    have e : ((List.range n).map fun j => mkShip (f j)).getD i Ship.zero = mkShip (f i) := by
      rw [List.getD_eq_getElem?_getD, List.getElem?_map, List.getElem?_range hi]; rfl
    rw [e]
    exact ⟨wf_range (hwf i 0 hi (by omega)), wf_range (hwf i 1 hi (by omega)), wf_range (hwf i 2 hi (by omega)), wf_range (hwf i 3 hi (by omega)), wf_range (hwf i 4 hi (by omega)), wf_range (hwf i 5 hi (by omega))⟩

/-- Cells that hold a kept room. -/
theorem open_kept {H : Type} {enc : TypeId × Value → H} {w : World} {base fuel : Nat} {spare : Nat → Bool} {held : Bool} {cs : List Value} {x : DataW H × List MemPlace}
    (hf : DataW.trod enc Try.prog w base spare held fuel 24 cs = some x) : ∃ k : Kept, cs = [.int .i64 k.wide, .int .i64 k.fr, .int .i64 k.to] ∧ KeptWf k := by
  obtain ⟨fs, s1, s2, s3, s4⟩ := kept_fields
  obtain ⟨hl, f, hg⟩ := trod_ints s1 s2 s3 hf
  rw [s4] at hl hg
  obtain ⟨a0, b0⟩ := hg 0 (by omega)
  obtain ⟨a1, b1⟩ := hg 1 (by omega)
  obtain ⟨a2, b2⟩ := hg 2 (by omega)
  refine ⟨⟨f 0, f 1, f 2⟩, ?_, ⟨wf_range b0, wf_range b1, wf_range b2⟩⟩
  match cs, hl with
  | [c0, c1, c2], _ =>
    simp only [List.getElem?_cons_zero, List.getElem?_cons_succ, Option.some.injEq] at a0 a1 a2
    rw [a0, a1, a2]

set_option maxRecDepth 100000 in
theorem port_desc : ∃ f0 f1 f2 f3 f4, Try.prog.underlying 27 = some (.struct #[f0, f1, f2, f3, f4]) ∧ (f0.offset = 0 ∧ f0.type = 3) ∧ (f1.offset = 1 ∧ f1.type = 22) ∧ (f2.offset = 2 ∧ f2.type = 25) ∧ (f3.offset = 14 ∧ f3.type = 3) ∧ (f4.offset = 15 ∧ f4.type = 3) :=
  ⟨_, _, _, _, _, Try.underlying27, ⟨rfl, rfl⟩, ⟨rfl, rfl⟩, ⟨rfl, rfl⟩, ⟨rfl, rfl⟩, ⟨rfl, rfl⟩⟩
theorem port_cells : Try.prog.cellsOf 27 = 16 ∧ Try.prog.cellsOf 3 = 1 ∧ Try.prog.cellsOf 22 = 1 ∧ Try.prog.cellsOf 25 = 12 ∧ Try.prog.cellsOf 24 = 3 := by
  refine ⟨by kernel_rfl, by kernel_rfl, by kernel_rfl, by kernel_rfl, by kernel_rfl⟩

set_option maxRecDepth 100000 in
/-- An argument that is a port. -/
theorem open_port {H : Type} {enc : TypeId × Value → H} {w : World} {base : Nat} {held : Bool} {r : Reach} {b0 : Nat} {v : Value} {d : DataW H} {pl : List MemPlace}
    (hv : Value.okWide Try.prog w r b0 27 v) (h : DataW.Trod enc Try.prog w base (fun _ => true) held 27 v d pl) :
    ∃ (p : Port) (A : Option Addr) (c : Nat), v = .agg (portA p A c) ∧ PWf p ∧ InP w p A := by
  obtain ⟨f0, f1, f2, f3, f4, hu, ⟨o0, t0⟩, ⟨o1, t1⟩, ⟨o2, t2⟩, ⟨o3, t3⟩, ⟨o4, t4⟩⟩ := port_desc
  obtain ⟨z0, z1, z2, z3, z4⟩ := port_cells
  obtain ⟨cs, rfl, _⟩ := okWide_struct hu hv
  obtain ⟨fuel, hf⟩ := h
  obtain ⟨xs, n, _, _, hl, hlen, hfd⟩ := DataW.trod_struct hu hf
  have hx : xs.length = 5 := hlen
  have g0 := hfd 0 f0 rfl
  have g1 := hfd 1 f1 rfl
  have g2 := hfd 2 f2 rfl
  have g3 := hfd 3 f3 rfl
  have g4 := hfd 4 f4 rfl
  rw [o0, t0, z1, List.getElem?_eq_getElem (by omega)] at g0
  rw [o1, t1, z2, List.getElem?_eq_getElem (by omega)] at g1
  rw [o2, t2, z3, List.getElem?_eq_getElem (by omega)] at g2
  rw [o3, t3, z1, List.getElem?_eq_getElem (by omega)] at g3
  rw [o4, t4, z1, List.getElem?_eq_getElem (by omega)] at g4
  obtain ⟨nw, e0, _, w0⟩ := DataW.trod_int Try.underlying3 g0
  obtain ⟨A, c, l, e1, hm, hsl, hwf⟩ := open_ships g1
  obtain ⟨ys, m, _, _, hyl, hylen, hel⟩ := DataW.trod_array Try.underlying25 g2
  obtain ⟨sh, e3, _, w3⟩ := DataW.trod_int Try.underlying3 g3
  obtain ⟨nx, e4, _, w4⟩ := DataW.trod_int Try.underlying3 g4
  have k0 := hel 0 (by omega)
  have k1 := hel 1 (by omega)
  have k2 := hel 2 (by omega)
  have k3 := hel 3 (by omega)
  rw [z4, List.getElem?_eq_getElem (by omega)] at k0 k1 k2 k3
  obtain ⟨q0, m0, x0⟩ := open_kept k0
  obtain ⟨q1, m1, x1⟩ := open_kept k1
  obtain ⟨q2, m2, x2⟩ := open_kept k2
  obtain ⟨q3, m3, x3⟩ := open_kept k3
  rw [z0] at hl
  have hcl : cs.toList.length = 16 := by simpa [Value.cells] using hl
  simp only [Value.cells] at e0 e1 m0 m1 m2 m3 e3 e4
  refine ⟨⟨nw, l, [q0, q1, q2, q3], sh, nx⟩, A, c, ?_, ⟨wf_range w0, wf_range w3, wf_range w4, hwf, fun i => ?_, rfl, hm⟩, hsl⟩
  · congr 1
    apply Array.ext'
    match hcs : cs.toList, hcl with
    | [c0, c1, c2, c3, c4, c5, c6, c7, c8, c9, c10, c11, c12, c13, c14, c15], _ =>
      rw [hcs] at e0 e1 m0 m1 m2 m3 e3 e4
      simp only [List.drop_zero, List.drop_succ_cons, List.take_succ_cons, List.take_zero, List.cons.injEq, and_true, Nat.zero_mul, Nat.one_mul, Nat.reduceMul] at e0 e1 m0 m1 m2 m3 e3 e4
      obtain ⟨a1, a2, a3⟩ := m0
      obtain ⟨b1, b2, b3⟩ := m1
      obtain ⟨c1', c2', c3'⟩ := m2
      obtain ⟨d1, d2, d3⟩ := m3
      simp [portA, Port.keep, e0, e1, e3, e4, a1, a2, a3, b1, b2, b3, c1', c2', c3', d1, d2, d3]
  · show KeptWf ([q0, q1, q2, q3].getD i Kept.zero)
    rcases (by omega : i = 0 ∨ i = 1 ∨ i = 2 ∨ i = 3 ∨ 4 ≤ i) with rfl | rfl | rfl | rfl | hi
    · exact x0
    · exact x1
    · exact x2
    · exact x3
    · rw [List.getD_eq_getElem?_getD, List.getElem?_eq_none (by simpa using hi)]
      exact ⟨by unfold i64; simp [Kept.zero], by unfold i64; simp [Kept.zero], by unfold i64; simp [Kept.zero]⟩
end Go.Proofs.Ytifmdkcpbajdcab
