/- Walks: a ship's place in a plan; is one fresh; is something dirty there. -/
import Derived.Test.YtifmdkcpbajdcabDirt
import Derived.Test.YtifmdkcpbajdcabInts
import Derived.Deep.RegionWith
import Derived.Deep.DeepCutAuto
namespace Go.Proofs.Ytifmdkcpbajdcab
open Go.RowKit Go.Proofs Plain

set_option maxRecDepth 100000 in
set_option maxHeartbeats 4000000 in
theorem place_any (plan : List Int) (A : Option Addr) (c i : Nat) (w : World) (h : Sl w 1 A plan.length (plan.map (Value.int .i64))) (hl : plan.length ≤ 100000) (hi : i ≤ 100000) :
    Calls Try.prog 41 #[.slice A plan.length c, .int .i64 i] w fun e w' => e = .returned (.int .i64 (place plan i)) ∧ Below w.heap.size w w' := by
  by_cases hlt : i < plan.length
  · have h1 : decide ((i : Int) < (plan.length : Int)) = true := by simpa using hlt
    obtain ⟨b, off, hA, _, hc⟩ := ints_at h (by omega)
    subst hA
    have e1 := hc i hlt
    have HR := Lib.hid (show place plan i = plan[i] by unfold place; simp only [List.getD_eq_getElem?_getD, List.getElem?_eq_getElem hlt]; rfl)
    go_enter Try.func41, Try.ntmps41
    go_wp2
    go_ret
    exact ⟨ret_int HR.out.symm, Below.refl _ _⟩
  · have h1 : decide ((i : Int) < (plan.length : Int)) = false := by simpa using hlt
    have HR := Lib.hid (show place plan i = -1 by unfold place; rw [List.getD_eq_getElem?_getD, List.getElem?_eq_none (by omega)]; rfl)
    go_enter Try.func41, Try.ntmps41
    go_wp2
    go_ret
    exact ⟨ret_int HR.out.symm, Below.refl _ _⟩

def freshS (x y : Ship) : Bool := decide (x.state ≠ 1) || decide (x.wide ≠ y.wide) || decide (x.long ≠ y.long) || decide (x.cls ≠ y.cls) || decide (x.queued ≠ y.queued)
theorem freshB_in {was now : Port} {i : Nat} (h : i < was.ships.length) : freshB was now i = freshS (was.ship i) (now.ship i) := by
  unfold freshB freshS
  rw [show decide (was.ships.length ≤ i) = false by simpa using h, Bool.false_or]
theorem freshB_out {was now : Port} {i : Nat} (h : ¬ i < was.ships.length) : freshB was now i = true := by
  unfold freshB
  rw [show decide (was.ships.length ≤ i) = true by simpa using h, Bool.true_or]

/-- Both ships' variables. -/
def Two (w : World) (g1 g2 : Nat) (x y : Ship) : Prop :=
  (w.cell? ⟨g1, 0, none⟩ = some (.int .i64 x.state) ∧ w.cell? ⟨g1, 1, none⟩ = some (.int .i64 x.wide) ∧ w.cell? ⟨g1, 2, none⟩ = some (.int .i64 x.long) ∧ w.cell? ⟨g1, 3, none⟩ = some (.int .i64 x.cls) ∧ w.cell? ⟨g1, 5, none⟩ = some (.int .i64 x.queued)) ∧
  (w.cell? ⟨g2, 1, none⟩ = some (.int .i64 y.wide) ∧ w.cell? ⟨g2, 2, none⟩ = some (.int .i64 y.long) ∧ w.cell? ⟨g2, 3, none⟩ = some (.int .i64 y.cls) ∧ w.cell? ⟨g2, 5, none⟩ = some (.int .i64 y.queued))

theorem ne_facts {x k : Int} (h : x ≠ k) : (x == k) = false ∧ (x != k) = true ∧ decide (x = k) = false := by
  refine ⟨by simpa using h, by simpa using h, by simpa using h⟩

set_option maxRecDepth 100000 in
set_option maxHeartbeats 16000000 in
theorem fresh_any (was now : Port) (A1 A2 : Option Addr) (c1 c2 i : Nat) (w : World) (hin1 : InP w was A1) (hin2 : InP w now A2) (hi : i < was.ships.length → i < now.ships.length) (hl : was.ships.length ≤ 100) (hi2 : i ≤ 100) :
    Calls Try.prog 42 #[.agg (portA was A1 c1), .agg (portA now A2 c2), .int .i64 i] w fun e w' => e = .returned (.bool (freshB was now i)) ∧ Below w.heap.size w w' := by
  by_cases hlt : i < was.ships.length
  · have h1 : decide ((i : Int) ≥ (was.ships.length : Int)) = false := by simpa using hlt
    have hlt2 := hi hlt
    have HR := Lib.hid (freshB_in (now := now) hlt)
    obtain ⟨b, off, hA, hbl, hcells⟩ := ships_at hin1 (by omega)
    subst hA
    obtain ⟨b2, off2, hA2, hbl2, hcells2⟩ := ships_at hin2 (by omega)
    subst hA2
    obtain ⟨d1, d2, d3, d4, d5, d6⟩ := hcells i hlt
    obtain ⟨f1, f2, f3, f4, f5, f6⟩ := hcells2 i hlt2
    clear hcells hcells2 hi hin1 hin2
    change w.cell? _ = some (.int .i64 (was.ship i).state) at d1
    change w.cell? _ = some (.int .i64 (was.ship i).wide) at d2
    change w.cell? _ = some (.int .i64 (was.ship i).long) at d3
    change w.cell? _ = some (.int .i64 (was.ship i).cls) at d4
    change w.cell? _ = some (.int .i64 (was.ship i).since) at d5
    change w.cell? _ = some (.int .i64 (was.ship i).queued) at d6
    change w.cell? _ = some (.int .i64 (now.ship i).state) at f1
    change w.cell? _ = some (.int .i64 (now.ship i).wide) at f2
    change w.cell? _ = some (.int .i64 (now.ship i).long) at f3
    change w.cell? _ = some (.int .i64 (now.ship i).cls) at f4
    change w.cell? _ = some (.int .i64 (now.ship i).since) at f5
    change w.cell? _ = some (.int .i64 (now.ship i).queued) at f6
    generalize was.ship i = x at *
    generalize now.ship i = y at *
    obtain ⟨xs, xw, xl, xc, xi, xq⟩ := x
    obtain ⟨ys, yw, yl, yc, yi, yq⟩ := y
    dsimp only at *
    simp only [portA]
    go_enter Try.func42, Try.ntmps42
    go_upto_region 1 with fail
    go_cut [3, 4, 13] (fun v3 v4 v13 wc => ∃ g3 g4, v13 = .bool false ∧ v3 = .pointer (some ⟨g3, 0, none⟩) ∧ v4 = .pointer (some ⟨g4, 0, none⟩) ∧ Below w.heap.size w wc ∧ wc.cell? ⟨g3, 1, none⟩ = some (.slice (some ⟨b, off, none⟩) was.ships.length c1) ∧ wc.cell? ⟨g4, 1, none⟩ = some (.slice (some ⟨b2, off2, none⟩) now.ships.length c2))
    case first =>
      go_wp2_with fail
      go_meet
      exact ⟨_, _, by simpa using h1, rfl, rfl, ((Below.refl _ _).alloc (Nat.le_refl _) _).alloc (by simp) _, by simp, by simp⟩
    obtain ⟨g3, g4, rfl, rfl, rfl, hb0, k3, k4⟩ := hcut
    rw [← hb0.cell (p := ⟨b, _, none⟩) hbl] at d1 d2 d3 d4 d5 d6
    rw [← hb0.cell (p := ⟨b2, _, none⟩) hbl2] at f1 f2 f3 f4 f5 f6
    have hg3 := cell_lt k3
    have hg4 := cell_lt k4
    have hbw : b < wc.heap.size := Nat.lt_of_lt_of_le hbl hb0.size
    have hbw2 : b2 < wc.heap.size := Nat.lt_of_lt_of_le hbl2 hb0.size
    go_upto_region 3 with fail
    go_cut [7, 8] (fun v7 v8 wc => ∃ g1 g2, v7 = .pointer (some ⟨g1, 0, none⟩) ∧ v8 = .pointer (some ⟨g2, 0, none⟩) ∧ Below w.heap.size w wc ∧ Two wc g1 g2 ⟨xs, xw, xl, xc, xi, xq⟩ ⟨ys, yw, yl, yc, yi, yq⟩)
    case first =>
      go_region
      all_goals
        go_wp2_with fail
        go_meet
        refine ⟨_, _, rfl, rfl, ?_, ⟨?_, ?_, ?_, ?_, ?_⟩, ?_, ?_, ?_, ?_⟩
        · exact below_drewN ((hb0.alloc hb0.size _).alloc (by have := hb0.size; simp; omega) _) 1
        all_goals simp
    case rest =>
      obtain ⟨g1, g2, rfl, rfl, hb, ⟨p1, p2, p3, p4, p5⟩, q2, q3, q4, q5⟩ := hcut
      dsimp only at p1 p2 p3 p4 p5 q2 q3 q4 q5
      by_cases n1 : xs = 1
      · by_cases n2 : xw = yw
        · by_cases n3 : xl = yl
          · by_cases n4 : xc = yc
            · by_cases n5 : xq = yq
              · subst n1 n2 n3 n4 n5
                go_wp2_with fail
                go_ret
                exact ⟨ret_bool (by rw [HR.out]; simp [freshS]), hb⟩
              · subst n1 n2 n3 n4
                obtain ⟨a1, a2, a3⟩ := ne_facts n5
                go_wp2_with fail
                go_ret
                exact ⟨ret_bool (by rw [HR.out]; simp [freshS, n5]), hb⟩
            · subst n1 n2 n3
              obtain ⟨a1, a2, a3⟩ := ne_facts n4
              go_wp2_with fail
              go_ret
              exact ⟨ret_bool (by rw [HR.out]; simp [freshS, n4]), hb⟩
          · subst n1 n2
            obtain ⟨a1, a2, a3⟩ := ne_facts n3
            go_wp2_with fail
            go_ret
            exact ⟨ret_bool (by rw [HR.out]; simp [freshS, n3]), hb⟩
        · subst n1
          obtain ⟨a1, a2, a3⟩ := ne_facts n2
          go_wp2_with fail
          go_ret
          exact ⟨ret_bool (by rw [HR.out]; simp [freshS, n2]), hb⟩
      · obtain ⟨a1, a2, a3⟩ := ne_facts n1
        go_wp2_with fail
        go_ret
        exact ⟨ret_bool (by rw [HR.out]; simp [freshS, n1]), hb⟩
  · have h1 : decide ((i : Int) ≥ (was.ships.length : Int)) = true := by simpa using hlt
    have HR := Lib.hid (freshB_out (now := now) hlt)
    simp only [portA]
    go_enter Try.func42, Try.ntmps42
    go_wp2
    go_ret
    exact ⟨ret_bool HR.out.symm, ((Below.refl _ _).alloc (Nat.le_refl _) _).alloc (by simp) _⟩

theorem meets_take {d : Dirt} {fr up : Int} {k : Nat} (hk : k < d.length) (h : meets (d.take k) fr up = false) (e : (decide ((d.getD k (0, 0)).1 < up) && decide (fr < (d.getD k (0, 0)).2)) = false) : meets (d.take (k + 1)) fr up = false := by
  rw [List.take_add_one, List.getElem?_eq_getElem hk]
  unfold meets at *
  rw [List.any_append, h, Bool.false_or]
  rw [List.getD_eq_getElem?_getD, List.getElem?_eq_getElem hk] at e
  simpa using e
theorem meets_yes {d : Dirt} {fr up : Int} {k : Nat} (hk : k < d.length) (e1 : (d.getD k (0, 0)).1 < up) (e2 : fr < (d.getD k (0, 0)).2) : meets d fr up = true := by
  unfold meets
  rw [List.any_eq_true]
  rw [List.getD_eq_getElem?_getD, List.getElem?_eq_getElem hk] at e1 e2
  exact ⟨d[k], List.getElem_mem hk, by simp at e1 e2; simp [e1, e2]⟩

set_option maxRecDepth 100000 in
set_option maxHeartbeats 8000000 in
theorem meets_any (g base : Nat) (v : Value) (d : Dirt) (fr up : Int) (w : World) (h : DirtAt w g base v d) (hl : d.length ≤ 50000) :
    Calls Try.prog 43 #[.pointer (some ⟨g, 0, none⟩), .int .i64 fr, .int .i64 up] w fun e w' => e = .returned (.bool (meets d fr up)) ∧ Below w.heap.size w w' := by
  have c0 := h.cell
  have hown := h.own
  obtain ⟨B, c, rfl⟩ := h.form
  have hsl : Sl w 2 B d.length (stepCells d) := Sl.of_own hown
  clear hown h
  go_enter Try.func43, Try.ntmps43
  go_wp2_with fail
  go_loopw [14] (fun i wr => ∃ k : Nat, k ≤ d.length ∧ i = .int .i64 k ∧ Below w.heap.size w wr ∧ meets (d.take k) fr up = false) (fun i _ => d.length - (intOf i).toNat)
  case atStart => exact ⟨0, Nat.zero_le _, rfl, Below.refl _ _, rfl⟩
  case round =>
    obtain ⟨k, hk, rfl, hB, hno⟩ := hrel
    by_cases hlt : k < d.length
    · obtain ⟨b, off, hA, hbl, hc⟩ := steps_at (hsl.below hB) (by omega)
      subst hA
      obtain ⟨e1, e2⟩ := hc k hlt
      have HN := Lib.hid (fun e => meets_take (fr := fr) (up := up) hlt hno e)
      have HY := Lib.hid (fun e1 e2 => meets_yes (fr := fr) (up := up) hlt e1 e2)
      clear hc hno
      generalize d.getD k (0, 0) = s at *
      obtain ⟨t, y⟩ := s
      dsimp only at *
      by_cases h1 : t < up
      · by_cases h2 : fr < y
        · have HR := Lib.hid (HY.out h1 h2)
          clear HN HY
          have a1 : decide (t < up) = true := by simpa using h1
          have a2 : decide (fr < y) = true := by simpa using h2
          have a3 : decide (y > fr) = true := a2
          go_wp2_with fail
          go_ret
          exact ⟨ret_bool HR.out.symm, hB.alloc hB.size _⟩
        · have HR := Lib.hid (HN.out (by simp [h1, h2]))
          clear HN HY
          have a1 : decide (t < up) = true := by simpa using h1
          have a2 : decide (fr < y) = false := by simpa using h2
          have a3 : decide (y > fr) = false := a2
          go_wp2_with fail
          go_roundw
          case rel => exact ⟨k + 1, by omega, by go_num, hB.alloc hB.size _, HR.out⟩
          case measure => simp [intOf] <;> omega
      · have HR := Lib.hid (HN.out (by simp [h1]))
        clear HN HY
        have a1 : decide (t < up) = false := by simpa using h1
        go_wp2_with fail
        go_roundw
        case rel => exact ⟨k + 1, by omega, by go_num, hB.alloc hB.size _, HR.out⟩
        case measure => simp [intOf] <;> omega
    · obtain rfl : k = d.length := by omega
      rw [List.take_length] at hno
      have HR := Lib.hid hno
      go_wp2_with fail
      go_ret
      exact ⟨ret_bool HR.out.symm, hB⟩
end Go.Proofs.Ytifmdkcpbajdcab
