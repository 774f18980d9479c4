/- Walks: a ship's place in a plan; is one fresh; is something dirty there. -/
import Derived.Test.YtifmdkcpbajdcabGreatDoorPortA
import Derived.Test.YtifmdkcpbajdcabGreatDoorInts
import Derived.Deep.RegionWith
import Derived.Deep.DeepCutAuto
import Derived.BigQuiet
import Derived.Deep.LoopGhost
import Derived.Test.YtifmdkcpbajdcabGreatDoorNats
set_option linter.unusedVariables false
set_option linter.unusedSimpArgs false
set_option maxHeartbeats 20000000
namespace Go.Proofs.YtifmdkcpbajdcabGreatDoor
open Go.RowKit Go.Proofs Plain
open Go.Lib renaming hid -> hd_
set_option maxRecDepth 100000 in
theorem place_any (plan : List Int) (A : Option Addr) (c i : Nat) (w : World) (h : Sl w 1 A plan.length (plan.map (Value.int .i64))) (hl : plan.length <= 100000) (hi : i <= 100000) :
    Calls Tryz.prog 76 #[.slice A plan.length c, .int .i64 i] w fun e w' => e = .returned (.int .i64 (place plan i)) /\ Below w.heap.size w w' := by
  by_cases hlt : i < plan.length
  · have h1 : decide ((i : Int) < (plan.length : Int)) = true := by simpa using hlt
    obtain ⟨b, off, hA, _, hc⟩ := ints_at h (by omega)
    subst hA
    have e1 := hc i hlt
    have HR := hd_ (show place plan i = plan[i] by unfold place; simp only [List.getD_eq_getElem?_getD, List.getElem?_eq_getElem hlt]; rfl)
    go_enter Tryz.func76, Tryz.ntmps76
    go_wp2
    go_ret
    exact ⟨ret_int HR.out.symm, Below.refl _ _⟩
  · have h1 : decide ((i : Int) < (plan.length : Int)) = false := by simpa using hlt
    have HR := hd_ (show place plan i = -1 by unfold place; rw [List.getD_eq_getElem?_getD, List.getElem?_eq_none (by omega)]; rfl)
    go_enter Tryz.func76, Tryz.ntmps76
    go_wp2
    go_ret
    exact ⟨ret_int HR.out.symm, Below.refl _ _⟩
def freshS (x y : Ship) : Bool := decide (x.state ≠ 1) || decide (x.wide ≠ y.wide) || decide (x.long ≠ y.long) || decide (x.cls ≠ y.cls) || decide (x.queued ≠ y.queued)
theorem freshB_in {was now : Port} {i : Nat} (h : i < was.ships.length) : freshB was now i = freshS (was.ship i) (now.ship i) := by
  unfold freshB freshS
  rw [show decide (was.ships.length <= i) = false by simpa using h, Bool.false_or]
theorem freshB_out {was now : Port} {i : Nat} (h : ¬ i < was.ships.length) : freshB was now i = true := by
  unfold freshB
  rw [show decide (was.ships.length <= i) = true by simpa using h, Bool.true_or]
def Two (w : World) (g1 g2 : Nat) (x y : Ship) : Prop :=
  (w.cell? ⟨g1, 0, none⟩ = some (.int .i64 x.state) /\ w.cell? ⟨g1, 1, none⟩ = some (.int .i64 x.wide) /\ w.cell? ⟨g1, 2, none⟩ = some (.int .i64 x.long) /\ w.cell? ⟨g1, 3, none⟩ = some (.int .i64 x.cls) /\ w.cell? ⟨g1, 5, none⟩ = some (.int .i64 x.queued)) /\
  (w.cell? ⟨g2, 1, none⟩ = some (.int .i64 y.wide) /\ w.cell? ⟨g2, 2, none⟩ = some (.int .i64 y.long) /\ w.cell? ⟨g2, 3, none⟩ = some (.int .i64 y.cls) /\ w.cell? ⟨g2, 5, none⟩ = some (.int .i64 y.queued))
theorem ne_facts {x k : Int} (h : x ≠ k) : (x == k) = false /\ (x != k) = true /\ decide (x = k) = false := by
  refine ⟨by simpa using h, by simpa using h, by simpa using h⟩
set_option maxRecDepth 100000 in
theorem fresh_any (was now : Port) (A1 A2 : Option Addr) (c1 c2 i : Nat) (w : World) (hin1 : InP w was A1) (hin2 : InP w now A2) (hi : i < was.ships.length -> i < now.ships.length) (hl : was.ships.length <= 100) (hi2 : i <= 100) :
    Calls Tryz.prog 77 #[.agg (portA was A1 c1), .agg (portA now A2 c2), .int .i64 i] w fun e w' => e = .returned (.bool (freshB was now i)) /\ Below w.heap.size w w' := by
  by_cases hlt : i < was.ships.length
  · have h1 : decide ((i : Int) >= (was.ships.length : Int)) = false := by simpa using hlt
    have hlt2 := hi hlt
    have HR := hd_ (freshB_in (now := now) hlt)
    obtain ⟨b, off, hA, hbl, hcells⟩ := ships_at hin1 (by omega)
    subst hA
    obtain ⟨b2, off2, hA2, hbl2, hcells2⟩ := ships_at hin2 (by omega)
    subst hA2
    obtain ⟨d1, d2, d3, d4, d5, d6⟩ := hcells i hlt
    obtain ⟨f1, f2, f3, f4, f5, f6⟩ := hcells2 i hlt2
    clear hcells hcells2 hi hin1 hin2
    change w.cell? _ = some (.int .i64 (was.ship i).state) at d1
    change w.cell? _ = some (.int .i64 (was.ship i).wide) at d2
    change w.cell? _ = some (.int .i64 (was.ship i).long) at d3
    change w.cell? _ = some (.int .i64 (was.ship i).cls) at d4
    change w.cell? _ = some (.int .i64 (was.ship i).since) at d5
    change w.cell? _ = some (.int .i64 (was.ship i).queued) at d6
    change w.cell? _ = some (.int .i64 (now.ship i).state) at f1
    change w.cell? _ = some (.int .i64 (now.ship i).wide) at f2
    change w.cell? _ = some (.int .i64 (now.ship i).long) at f3
    change w.cell? _ = some (.int .i64 (now.ship i).cls) at f4
    change w.cell? _ = some (.int .i64 (now.ship i).since) at f5
    change w.cell? _ = some (.int .i64 (now.ship i).queued) at f6
    generalize was.ship i = x at *
    generalize now.ship i = y at *
    obtain ⟨xs, xw, xl, xc, xi, xq⟩ := x
    obtain ⟨ys, yw, yl, yc, yi, yq⟩ := y
    dsimp only at *
    simp only [portA]
    go_enter Tryz.func77, Tryz.ntmps77
    go_upto_region 1 with fail
    go_cut [3, 4, 13] (fun v3 v4 v13 wc => ∃ g3 g4, v13 = .bool false /\ v3 = .pointer (some ⟨g3, 0, none⟩) /\ v4 = .pointer (some ⟨g4, 0, none⟩) /\ Below w.heap.size w wc /\ wc.cell? ⟨g3, 1, none⟩ = some (.slice (some ⟨b, off, none⟩) was.ships.length c1) /\ wc.cell? ⟨g4, 1, none⟩ = some (.slice (some ⟨b2, off2, none⟩) now.ships.length c2))
    case first =>
      go_wp2_with fail
      go_meet
      exact ⟨_, _, by simpa using h1, rfl, rfl, ((Below.refl _ _).alloc (Nat.le_refl _) _).alloc (by simp) _, by simp, by simp⟩
    obtain ⟨g3, g4, rfl, rfl, rfl, hb0, k3, k4⟩ := hcut
    rw [<- hb0.cell (p := ⟨b, _, none⟩) hbl] at d1 d2 d3 d4 d5 d6
    rw [<- hb0.cell (p := ⟨b2, _, none⟩) hbl2] at f1 f2 f3 f4 f5 f6
    have hg3 := cell_lt k3
    have hg4 := cell_lt k4
    have hbw : b < wc.heap.size := Nat.lt_of_lt_of_le hbl hb0.size
    have hbw2 : b2 < wc.heap.size := Nat.lt_of_lt_of_le hbl2 hb0.size
    go_upto_region 3 with fail
    go_cut [7, 8] (fun v7 v8 wc => ∃ g1 g2, v7 = .pointer (some ⟨g1, 0, none⟩) /\ v8 = .pointer (some ⟨g2, 0, none⟩) /\ Below w.heap.size w wc /\ Two wc g1 g2 ⟨xs, xw, xl, xc, xi, xq⟩ ⟨ys, yw, yl, yc, yi, yq⟩)
    case first =>
      go_region
      all_goals
        go_wp2_with fail
        go_meet
        refine ⟨_, _, rfl, rfl, ?_, ⟨?_, ?_, ?_, ?_, ?_⟩, ?_, ?_, ?_, ?_⟩
        · exact bdN ((hb0.alloc hb0.size _).alloc (by have := hb0.size; simp; omega) _) 1
        all_goals simp
    case rest =>
      obtain ⟨g1, g2, rfl, rfl, hb, ⟨p1, p2, p3, p4, p5⟩, q2, q3, q4, q5⟩ := hcut
      dsimp only at p1 p2 p3 p4 p5 q2 q3 q4 q5
      by_cases n1 : xs = 1
      · by_cases n2 : xw = yw
        · by_cases n3 : xl = yl
          · by_cases n4 : xc = yc
            · by_cases n5 : xq = yq
              · subst n1 n2 n3 n4 n5
                go_wp2_with fail
                go_ret
                exact ⟨rtB (by rw [HR.out]; simp [freshS]), hb⟩
              · subst n1 n2 n3 n4
                obtain ⟨a1, a2, a3⟩ := ne_facts n5
                go_wp2_with fail
                go_ret
                exact ⟨rtB (by rw [HR.out]; simp [freshS, n5]), hb⟩
            · subst n1 n2 n3
              obtain ⟨a1, a2, a3⟩ := ne_facts n4
              go_wp2_with fail
              go_ret
              exact ⟨rtB (by rw [HR.out]; simp [freshS, n4]), hb⟩
          · subst n1 n2
            obtain ⟨a1, a2, a3⟩ := ne_facts n3
            go_wp2_with fail
            go_ret
            exact ⟨rtB (by rw [HR.out]; simp [freshS, n3]), hb⟩
        · subst n1
          obtain ⟨a1, a2, a3⟩ := ne_facts n2
          go_wp2_with fail
          go_ret
          exact ⟨rtB (by rw [HR.out]; simp [freshS, n2]), hb⟩
      · obtain ⟨a1, a2, a3⟩ := ne_facts n1
        go_wp2_with fail
        go_ret
        exact ⟨rtB (by rw [HR.out]; simp [freshS, n1]), hb⟩
  · have h1 : decide ((i : Int) >= (was.ships.length : Int)) = true := by simpa using hlt
    have HR := hd_ (freshB_out (now := now) hlt)
    simp only [portA]
    go_enter Tryz.func77, Tryz.ntmps77
    go_wp2
    go_ret
    exact ⟨rtB HR.out.symm, ((Below.refl _ _).alloc (Nat.le_refl _) _).alloc (by simp) _⟩
theorem meets_take {d : Dirt} {fr up : Int} {k : Nat} (hk : k < d.length) (h : meets (d.take k) fr up = false) (e : (decide ((d.getD k (0, 0)).1 < up) && decide (fr < (d.getD k (0, 0)).2)) = false) : meets (d.take (k + 1)) fr up = false := by
  rw [List.take_add_one, List.getElem?_eq_getElem hk]
  unfold meets at *
  rw [List.any_append, h, Bool.false_or]
  rw [List.getD_eq_getElem?_getD, List.getElem?_eq_getElem hk] at e
  simpa using e
theorem meets_yes {d : Dirt} {fr up : Int} {k : Nat} (hk : k < d.length) (e1 : (d.getD k (0, 0)).1 < up) (e2 : fr < (d.getD k (0, 0)).2) : meets d fr up = true := by
  unfold meets
  rw [List.any_eq_true]
  rw [List.getD_eq_getElem?_getD, List.getElem?_eq_getElem hk] at e1 e2
  exact ⟨d[k], List.getElem_mem hk, by simp at e1 e2; simp [e1, e2]⟩
set_option maxRecDepth 100000 in
theorem meets_any (g base : Nat) (v : Value) (d : Dirt) (fr up : Int) (w : World) (h : DirtAt w g base v d) (hl : d.length <= 50000) :
    Calls Tryz.prog 78 #[.pointer (some ⟨g, 0, none⟩), .int .i64 fr, .int .i64 up] w fun e w' => e = .returned (.bool (meets d fr up)) /\ Below w.heap.size w w' := by
  have c0 := h.cell
  have hown := h.own
  obtain ⟨B, c, rfl⟩ := h.form
  have hsl : Sl w 2 B d.length (stC d) := Sl.of_own hown
  clear hown h
  go_enter Tryz.func78, Tryz.ntmps78
  go_wp2_with fail
  go_loopw [14] (fun i wr => ∃ k : Nat, k <= d.length /\ i = .int .i64 k /\ Below w.heap.size w wr /\ meets (d.take k) fr up = false) (fun i _ => d.length - (intOf i).toNat)
  case atStart => exact ⟨0, Nat.zero_le _, rfl, Below.refl _ _, rfl⟩
  case round =>
    obtain ⟨k, hk, rfl, hB, hno⟩ := hrel
    by_cases hlt : k < d.length
    · obtain ⟨b, off, hA, hbl, hc⟩ := steps_at (hsl.below hB) (by omega)
      subst hA
      obtain ⟨e1, e2⟩ := hc k hlt
      have HN := hd_ (fun e => meets_take (fr := fr) (up := up) hlt hno e)
      have HY := hd_ (fun e1 e2 => meets_yes (fr := fr) (up := up) hlt e1 e2)
      clear hc hno
      generalize d.getD k (0, 0) = s at *
      obtain ⟨t, y⟩ := s
      dsimp only at *
      by_cases h1 : t < up
      · by_cases h2 : fr < y
        · have HR := hd_ (HY.out h1 h2)
          clear HN HY
          have a1 : decide (t < up) = true := by simpa using h1
          have a2 : decide (fr < y) = true := by simpa using h2
          have a3 : decide (y > fr) = true := a2
          go_wp2_with fail
          go_ret
          exact ⟨rtB HR.out.symm, hB.alloc hB.size _⟩
        · have HR := hd_ (HN.out (by simp [h1, h2]))
          clear HN HY
          have a1 : decide (t < up) = true := by simpa using h1
          have a2 : decide (fr < y) = false := by simpa using h2
          have a3 : decide (y > fr) = false := a2
          go_wp2_with fail
          go_roundw
          case rel => exact ⟨k + 1, by omega, by go_num, hB.alloc hB.size _, HR.out⟩
          case measure => simp [intOf] <;> omega
      · have HR := hd_ (HN.out (by simp [h1]))
        clear HN HY
        have a1 : decide (t < up) = false := by simpa using h1
        go_wp2_with fail
        go_roundw
        case rel => exact ⟨k + 1, by omega, by go_num, hB.alloc hB.size _, HR.out⟩
        case measure => simp [intOf] <;> omega
    · obtain rfl : k = d.length := by omega
      rw [List.take_length] at hno
      have HR := hd_ hno
      go_wp2_with fail
      go_ret
      exact ⟨rtB HR.out.symm, hB⟩
def longS (was : Port) (i : Nat) (s : Ship) : Int := if i < was.ships.length then (was.ship i).long else s.long
def wideS (was : Port) (i : Nat) (s : Ship) : Int := if i < was.ships.length then (was.ship i).wide else s.wide
def gone (d : Dirt) (old long : Int) : Dirt := if 0 <= old then addD d old (old + long) else d
def movedS (was : Port) (d : Dirt) (i : Nat) (old t : Int) (s : Ship) : Dirt :=
  if old = t /\ longS was i s = s.long /\ wideS was i s = s.wide then d else gone (gone d old (longS was i s)) t s.long
theorem movedD_eq (was now : Port) (d : Dirt) (i : Nat) (old t : Int) : movedD was now d i old t = movedS was d i old t (now.ship i) := rfl
theorem addD_len (d : Dirt) (a b : Int) : (addD d a b).length <= d.length + 1 := by
  unfold addD; split
  · simp
  · omega
theorem gone_len (d : Dirt) (a b : Int) : (gone d a b).length <= d.length + 1 := by
  unfold gone; split
  · exact addD_len _ _ _
  · omega
structure MvD (w wq : World) (g base : Nat) (v v' : Value) (d' : Dirt) (g11 : Nat) (wd lg : Int) : Prop where
  dirt : DirtAt wq g base v' d'
  adds : Adds g w wq v v'
  ne : v'.ownBlock ≠ some g11
  lt : g11 < wq.heap.size
  ge : w.heap.size <= g11
  wide : wq.cell? ⟨g11, 1, none⟩ = some (.int .i64 wd)
  long : wq.cell? ⟨g11, 2, none⟩ = some (.int .i64 lg)
section
variable {w wq w' : World} {g base : Nat} {v v' v'' : Value} {d' d'' : Dirt} {g11 : Nat} {wd lg : Int}
theorem MvD.next (h : MvD w wq g base v v' d' g11 wd lg) (hg : g < w.heap.size) (hd : DirtAt w' g base v'' d'') (ha : Adds g wq w' v' v'') : MvD w w' g base v v'' d'' g11 wd lg := by
  have hc : w'.heap[g11]? = wq.heap[g11]? := ha.block g11 h.lt (by have := h.ge; omega) (fun e => h.ne e.symm)
  refine ⟨hd, h.adds.trans ha, ?_, Nat.lt_of_lt_of_le h.lt ha.size, h.ge, (World.cell?_of_block (w := wq) hc).trans h.wide, (World.cell?_of_block (w := wq) hc).trans h.long⟩
  rcases ha.own with e | ⟨j, e, hj⟩
  · rw [e]; exact h.ne
  · rw [e]; intro e2; cases e2; have := h.lt; omega
theorem MvD.below (h : MvD w wq g base v v' d' g11 wd lg) (hg : g < w.heap.size) (hb : Below wq.heap.size wq w') : MvD w w' g base v v' d' g11 wd lg := h.next hg (h.dirt.below hb) (.of_below hb)
theorem MvD.start (hd : DirtAt w g base v d') (hb : Below w.heap.size w wq) (h1 : g11 < wq.heap.size) (h2 : w.heap.size <= g11) (h3 : wq.cell? ⟨g11, 1, none⟩ = some (.int .i64 wd)) (h4 : wq.cell? ⟨g11, 2, none⟩ = some (.int .i64 lg)) :
    MvD w wq g base v v d' g11 wd lg := ⟨hd.below hb, .of_below hb, fun e => by have := hd.own.block g11 e; omega, h1, h2, h3, h4⟩
end
set_option maxRecDepth 100000 in
theorem moved_any (g base : Nat) (v : Value) (d : Dirt) (was : Port) (A : Option Addr) (c i : Nat) (old t : Int) (s : Ship) (w : World) (h : DirtAt w g base v d) (hl : d.length <= 40000) (hb : base <= w.heap.size)
    (hin : InP w was A) (hln : was.ships.length <= 100) (hi : i <= 100) (hold : -1000 <= old /\ old <= 1000) (ht : -1000 <= t /\ t <= 1000) (hs : 0 <= s.long /\ s.long <= 1000) (hw : i < was.ships.length -> 0 <= (was.ship i).long /\ (was.ship i).long <= 1000) :
    Calls Tryz.prog 80 #[.pointer (some ⟨g, 0, none⟩), .agg (portA was A c), .int .i64 i, .int .i64 old, .int .i64 t, .agg (shipV s)] w (RetDirt g base v (movedS was d i old t s) w) := by
  obtain ⟨st, wd, lg, cl, si, qu⟩ := s
  dsimp only at hs
  have hL : 0 <= longS was i ⟨st, wd, lg, cl, si, qu⟩ /\ longS was i ⟨st, wd, lg, cl, si, qu⟩ <= 1000 := by
    unfold longS; split
    · exact hw (by assumption)
    · exact hs
  have HR := hd_ (show movedS was d i old t ⟨st, wd, lg, cl, si, qu⟩ = if old = t /\ longS was i ⟨st, wd, lg, cl, si, qu⟩ = lg /\ wideS was i ⟨st, wd, lg, cl, si, qu⟩ = wd then d else gone (gone d old (longS was i ⟨st, wd, lg, cl, si, qu⟩)) t lg from rfl)
  have HIN := hd_ (fun h : i < was.ships.length => And.intro (show longS was i ⟨st, wd, lg, cl, si, qu⟩ = (was.ship i).long by unfold longS; rw [if_pos h]) (show wideS was i ⟨st, wd, lg, cl, si, qu⟩ = (was.ship i).wide by unfold wideS; rw [if_pos h]))
  have HOUT := hd_ (fun h : ¬ i < was.ships.length => And.intro (show longS was i ⟨st, wd, lg, cl, si, qu⟩ = lg by unfold longS; rw [if_neg h]) (show wideS was i ⟨st, wd, lg, cl, si, qu⟩ = wd by unfold wideS; rw [if_neg h]))
  generalize movedS was d i old t ⟨st, wd, lg, cl, si, qu⟩ = D at *
  generalize longS was i ⟨st, wd, lg, cl, si, qu⟩ = LG at *
  generalize wideS was i ⟨st, wd, lg, cl, si, qu⟩ = WD at *
  simp only [portA, shipV]
  have hH := hd_ h
  have hgs := h.size
  clear h
  go_enter Tryz.func80, Tryz.ntmps80
  go_upto_region 1 with fail
  go_cut [7, 11, 12, 13] (fun v7 v11 v12 v13 wc => ∃ g7 g11, v7 = .pointer (some ⟨g7, 0, none⟩) /\ v11 = .pointer (some ⟨g11, 0, none⟩) /\ v12 = .int .i64 lg /\ v13 = .int .i64 wd /\ Below w.heap.size w wc /\ w.heap.size <= g11 /\ g11 < wc.heap.size /\ wc.cell? ⟨g7, 1, none⟩ = some (.slice A was.ships.length c) /\ wc.cell? ⟨g11, 1, none⟩ = some (.int .i64 wd) /\ wc.cell? ⟨g11, 2, none⟩ = some (.int .i64 lg))
  case first => as_aux_lemma =>
    go_quiet (fail)
    go_wp2_with fail
    go_meet
    exact ⟨_, _, rfl, rfl, rfl, rfl, bdN (((Below.refl _ _).alloc (Nat.le_refl _) _).alloc (by simp) _) _, by simp, by simp, by simp, by simp, by simp⟩
  obtain ⟨g7, g11, rfl, rfl, rfl, rfl, hB, hg11, hg11', k7, k1, k2⟩ := hcut
  have hM := MvD.start hH.out hB hg11' hg11 k1 k2
  go_upto_if 22 with fail
  go_cut [12, 13] (fun v12 v13 wq => v12 = .int .i64 LG /\ v13 = .int .i64 WD /\ MvD w wq g base v v d g11 wd lg)
  case first => as_aux_lemma =>
    by_cases hlt : i < was.ships.length
    · have t1 : decide ((i : Int) < (was.ships.length : Int)) = true := by simpa using hlt
      obtain ⟨b, off, hA, hbl, hcells⟩ := ships_at (Sl.below hin hB) (by omega)
      subst hA
      obtain ⟨d1, d2, d3, d4, d5, d6⟩ := hcells i hlt
      clear hcells
      change wc.cell? _ = some (.int .i64 (was.ship i).wide) at d2
      change wc.cell? _ = some (.int .i64 (was.ship i).long) at d3
      obtain ⟨e1, e2⟩ := HIN.out hlt
      have E := hd_ (And.intro e1 e2)
      clear e1 e2
      go_wp2_with fail
      go_quiet (fail)
      go_wp2_with fail
      go_meet
      exact ⟨by rw [E.out.1], by rw [E.out.2], hM.below hgs (bdN (Below.refl _ _) _)⟩
    · have t1 : decide ((i : Int) < (was.ships.length : Int)) = false := by simpa using hlt
      have E := hd_ (HOUT.out hlt)
      go_wp2_with fail
      go_meet
      exact ⟨by rw [E.out.1], by rw [E.out.2], hM⟩
  clear hB hg11 hg11' k7 k1 k2 hM
  obtain ⟨rfl, rfl, hM⟩ := hcut
  have k1 := hM.wide
  have k2 := hM.long
  by_cases hsame : old = t /\ LG = lg /\ WD = wd
  · obtain ⟨rfl, rfl, rfl⟩ := hsame
    go_wp2_with fail
    refine bodyPost_ret (results_none rfl _ _ _) rfl ?_
    exact ⟨rfl, v, by rw [HR.out, if_pos (by simp)]; exact hM.dirt, hM.adds⟩
  · have HD := hd_ (HR.out.trans (if_neg hsame))
    go_upto_region 4 with fail
    go_cut [49] (fun v49 wq => v49 = .bool false /\ MvD w wq g base v v d g11 wd lg)
    case first => as_aux_lemma =>
      by_cases n1 : old = t
      · by_cases n2 : LG = lg
        · have n3 : WD ≠ wd := fun e => hsame ⟨n1, n2, e⟩
          obtain ⟨a1, a2, a3⟩ := ne_facts n3
          clear hsame
          subst n1 n2
          go_wp2_with fail
          go_meet
          exact ⟨rfl, hM⟩
        · clear hsame
          subst n1
          obtain ⟨a1, a2, a3⟩ := ne_facts n2
          go_wp2_with fail
          go_meet
          exact ⟨rfl, hM⟩
      · clear hsame
        obtain ⟨a1, a2, a3⟩ := ne_facts n1
        go_wp2_with fail
        go_meet
        exact ⟨rfl, hM⟩
    clear hM k1 k2
    obtain ⟨rfl, hM⟩ := hcut
    go_upto_if 51 with fail
    go_cut [3] (fun v3 wq => v3 = .int .i64 old /\ ∃ v', MvD w wq g base v v' (gone d old LG) g11 wd lg)
    case first => as_aux_lemma =>
      by_cases h0 : 0 <= old
      · have t1 : decide (old >= 0) = true := by simpa using h0
        have HG := hd_ (show gone d old LG = addD d old (old + LG) by unfold gone; rw [if_pos h0])
        go_wp2_with (go_at_call 73; refine (dirt_add g base v d old (old + LG) _ hM.dirt (by omega) (Nat.le_trans hb hM.adds.size)).mono ?_; rintro e w4 ⟨rfl, v4, hD4, hA4⟩)
        go_meet
        exact ⟨rfl, v4, by rw [HG.out]; exact hM.next hgs hD4 hA4⟩
      · have t1 : decide (old >= 0) = false := by simpa using h0
        have HG := hd_ (show gone d old LG = d by unfold gone; rw [if_neg h0])
        go_wp2_with fail
        go_meet
        exact ⟨rfl, v, by rw [HG.out]; exact hM⟩
    clear hM
    obtain ⟨rfl, v', hM⟩ := hcut
    have k2 := hM.long
    have hlen := gone_len d old LG
    have HD2 := hd_ HD.out
    generalize gone d old LG = dd at *
    by_cases h0 : 0 <= t
    · have t1 : decide (t >= 0) = true := by simpa using h0
      have HG := hd_ (show gone dd t lg = addD dd t (t + lg) by unfold gone; rw [if_pos h0])
      go_wp2_with (go_at_call 73; refine (dirt_add g base v' dd t (t + lg) _ hM.dirt (by omega) (Nat.le_trans hb hM.adds.size)).mono ?_; rintro e w4 ⟨rfl, v4, hD4, hA4⟩)
      go_end0
      exact ⟨rfl, v4, by rw [HD2.out, HG.out]; exact hD4, hM.adds.trans hA4⟩
    · have t1 : decide (t >= 0) = false := by simpa using h0
      have HG := hd_ (show gone dd t lg = dd by unfold gone; rw [if_neg h0])
      go_wp2_with fail
      go_end0
      exact ⟨rfl, v', by rw [HD2.out, HG.out]; exact hM.dirt, hM.adds⟩
end Go.Proofs.YtifmdkcpbajdcabGreatDoor
namespace Go.Proofs.YtifmdkcpbajdcabGreatDoor
open Go.RowKit Go.Proofs Plain
open Go.Lib renaming hid -> hd_
theorem next_drop (l : Prof) (j : Nat) : nextAt (l.drop j) = if j < l.length then (l.getD j (0, 0)).1 else 300 := by
  by_cases h : j < l.length
  · rw [if_pos h, List.drop_eq_getElem_cons h, List.getD_eq_getElem?_getD, List.getElem?_eq_getElem h]; rfl
  · rw [if_neg h, List.drop_eq_nil_of_le (by omega)]; rfl
def stepD (d : Dirt) (a b : Stp) (x y : Int) : Dirt := if a.2 ≠ b.2 then addD d (max a.1 b.1) (min x y) else d
theorem stepD_len (d : Dirt) (a b : Stp) (x y : Int) : (stepD d a b x y).length <= d.length + 1 := by
  unfold stepD; split
  · exact addD_len _ _ _
  · omega
theorem drop_get (l : Prof) {i : Nat} (h : i < l.length) : l.drop i = l.getD i (0, 0) :: l.drop (i + 1) := by
  rw [List.drop_eq_getElem_cons h, List.getD_eq_getElem?_getD, List.getElem?_eq_getElem h]; rfl
theorem diff_end {l m : Prof} {i k : Nat} {d : Dirt} (h : ¬ (i < l.length /\ k < m.length)) : diff (l.drop i) (m.drop k) d = d := by
  by_cases h1 : i < l.length
  · have e : m.drop k = [] := List.drop_eq_nil_of_le (by omega)
    rw [e, drop_get l h1]; simp [diff]
  · have e : l.drop i = [] := List.drop_eq_nil_of_le (by omega)
    rw [e]; simp [diff]
theorem diff_next {l m : Prof} {i k : Nat} (h1 : i < l.length) (h2 : k < m.length) (d : Dirt) {x y : Int} (hx : nextAt (l.drop (i + 1)) = x) (hy : nextAt (m.drop (k + 1)) = y) :
    diff (l.drop i) (m.drop k) d = diff (l.drop (if x <= y then i + 1 else i)) (m.drop (if y <= x then k + 1 else k)) (stepD d (l.getD i (0, 0)) (m.getD k (0, 0)) x y) := by
  have e1 := drop_get l h1
  have e2 := drop_get m h2
  unfold stepD
  generalize l.getD i (0, 0) = a at *
  generalize m.getD k (0, 0) = b at *
  obtain ⟨a, u⟩ := a
  obtain ⟨b, v⟩ := b
  rw [e1, e2, diff, hx, hy]
  by_cases g1 : x < y
  · rw [if_pos g1, if_pos (show x <= y by omega), if_neg (show ¬ y <= x by omega), e2]
  · rw [if_neg g1]
    by_cases g2 : y < x
    · rw [if_pos g2, if_neg (show ¬ x <= y by omega), if_pos (show y <= x by omega), e1]
    · rw [if_neg g2, if_pos (show x <= y by omega), if_pos (show y <= x by omega)]
set_option maxRecDepth 100000 in
theorem differ_any (g base : Nat) (v : Value) (d : Dirt) (l m : Prof) (A1 A2 : Option Addr) (c1 c2 : Nat) (w : World) (h : DirtAt w g base v d) (hb : base <= w.heap.size)
    (hl1 : l.length <= 1000) (hl2 : m.length <= 1000) (hdl : d.length <= 1000) (hin1 : Sl w 2 A1 l.length (stC l)) (hin2 : Sl w 2 A2 m.length (stC m)) (ho1 : Off w g v A1 l.length) (ho2 : Off w g v A2 m.length) :
    Calls Tryz.prog 72 #[.pointer (some ⟨g, 0, none⟩), .slice A1 l.length c1, .slice A2 m.length c2] w (RetDirt g base v (diff l m d) w) := by
  have HD := hd_ (show diff (l.drop 0) (m.drop 0) d = diff l m d by rfl)
  generalize diff l m d = D at *
  go_enter Tryz.func72, Tryz.ntmps72
  go_wp2_with fail
  go_loopg [6, 7] (l.length + m.length) (fun n s6 s7 wr => ∃ (i k : Nat) (v' : Value) (dd : Dirt), n = l.length + m.length - (i + k) /\ i <= l.length /\ k <= m.length /\ s6 = .int .i64 i /\ s7 = .int .i64 k /\ DirtAt wr g base v' dd /\ Adds g w wr v v' /\ dd.length <= d.length + i + k /\ diff (l.drop i) (m.drop k) dd = D)
  case atStart => exact ⟨0, 0, v, d, rfl, Nat.zero_le _, Nat.zero_le _, rfl, rfl, h, .refl, Nat.le_refl _, HD.out⟩
  case round =>
    obtain ⟨i, k, v', dd, hn, hi, hk, rfl, rfl, hd, ha, hlen, heq⟩ := hrel
    have HQ := hd_ heq
    clear heq h HD
    by_cases hlt : i < l.length /\ k < m.length
    · obtain ⟨h1, h2⟩ := hlt
      have HNX := hd_ (fun x y hx hy => @diff_next l m i k h1 h2 dd x y hx hy)
      have HX := hd_ (next_drop l (i + 1))
      have HY := hd_ (next_drop m (k + 1))
      obtain ⟨x, hx⟩ : ∃ x, nextAt (l.drop (i + 1)) = x := ⟨_, rfl⟩
      obtain ⟨y, hy⟩ : ∃ y, nextAt (m.drop (k + 1)) = y := ⟨_, rfl⟩
      rw [hx] at HX
      rw [hy] at HY
      have HN := hd_ (HQ.out.symm.trans (HNX.out x y hx hy))
      clear hx hy HNX HQ
      have hs1 := hin1.adds ho1 ha
      have hs2 := hin2.adds ho2 ha
      have HS1 := hd_ hs1
      have HS2 := hd_ hs2
      obtain ⟨b1, off1, hA1, hbl1, hc1⟩ := steps_at hs1 (by omega)
      subst hA1
      obtain ⟨b2, off2, hA2, hbl2, hc2⟩ := steps_at hs2 (by omega)
      subst hA2
      obtain ⟨e1, e2⟩ := hc1 i h1
      obtain ⟨f1, f2⟩ := hc2 k h2
      have HC1 := hd_ hc1
      have HC2 := hd_ hc2
      clear hs1 hs2 hc1 hc2
      have hsl := stepD_len dd (l.getD i (0, 0)) (m.getD k (0, 0)) x y
      have HSD := hd_ (show stepD dd (l.getD i (0, 0)) (m.getD k (0, 0)) x y = if (l.getD i (0, 0)).2 ≠ (m.getD k (0, 0)).2 then addD dd (max (l.getD i (0, 0)).1 (m.getD k (0, 0)).1) (min x y) else dd from rfl)
      generalize stepD dd (l.getD i (0, 0)) (m.getD k (0, 0)) x y = d2 at *
      generalize l.getD i (0, 0) = a at *
      generalize m.getD k (0, 0) = b at *
      obtain ⟨a, u⟩ := a
      obtain ⟨b, z⟩ := b
      dsimp only at *
      go_wp2_with fail
      go_quiet (fail)
      go_upto_if 36 with fail
      go_cut [9] (fun v9 wq => v9 = .int .i64 x /\ Below wr.heap.size wr wq)
      case first => as_aux_lemma =>
        by_cases q1 : i + 1 < l.length
        · have t1 : decide ((i : Int) + 1 < (l.length : Int)) = true := by simp; omega
          have E := HX.out
          rw [if_pos q1] at E
          have HE := hd_ E
          clear E
          obtain ⟨p1, _⟩ := HC1.out (i + 1) q1
          rw [<- HE.out] at p1
          go_wp2_with fail
          go_meet
          exact ⟨rfl, bdN (Below.refl _ _) _⟩
        · have t1 : decide ((i : Int) + 1 < (l.length : Int)) = false := by simp; omega
          have E := HX.out
          rw [if_neg q1] at E
          have HE := hd_ E
          clear E
          go_wp2_with fail
          go_meet
          exact ⟨by rw [HE.out], bdN (Below.refl _ _) _⟩
      obtain ⟨rfl, hB1⟩ := hcut
      have HB1 := hd_ hB1
      clear hB1
      go_upto_if 47 with fail
      go_cut [10] (fun v10 wq => v10 = .int .i64 y /\ Below wr.heap.size wr wq)
      case first => as_aux_lemma =>
        by_cases q1 : k + 1 < m.length
        · have t1 : decide ((k : Int) + 1 < (m.length : Int)) = true := by simp; omega
          have E := HY.out
          rw [if_pos q1] at E
          have HE := hd_ E
          clear E
          obtain ⟨p1, _⟩ := HC2.out (k + 1) q1
          rw [<- HE.out, <- HB1.out.cell (p := ⟨b2, _, none⟩) hbl2] at p1
          go_wp2_with fail
          go_meet
          exact ⟨rfl, HB1.out⟩
        · have t1 : decide ((k : Int) + 1 < (m.length : Int)) = false := by simp; omega
          have E := HY.out
          rw [if_neg q1] at E
          have HE := hd_ E
          clear E
          go_wp2_with fail
          go_meet
          exact ⟨by rw [HE.out], HB1.out⟩
      clear HB1
      obtain ⟨rfl, hB1⟩ := hcut
      have hd1 := hd.below hB1
      have ha1 := ha.trans (.of_below hB1)
      rw [<- hB1.cell (p := ⟨b1, _, none⟩) hbl1] at e1 e2
      rw [<- hB1.cell (p := ⟨b2, _, none⟩) hbl2] at f1 f2
      clear hB1 HX HY HC1 HC2 HS1 HS2 hd ha
      have HD1 := hd_ hd1
      have HA1 := hd_ ha1
      have hbs := Nat.le_trans hb ha1.size
      clear hd1 ha1
      by_cases huz : u = z
      · have E := HSD.out
        rw [if_neg (by simpa using huz)] at E
        subst huz
        have hD4 := HD1.out
        have hA4 := HA1.out
        rw [<- E] at hD4
        obtain ⟨v4, hD4, hA4⟩ : ∃ v4, DirtAt wc g base v4 d2 /\ Adds g w wc v v4 := ⟨v', hD4, hA4⟩
        have HDA := hd_ (And.intro hD4 hA4)
        clear E hD4 hA4 HSD HD1 HA1
        go_wp2_with fail
        go_quiet (fail)
        have hD4 := HDA.out.1.drewN nq
        have hA4 := HDA.out.2.trans (.of_below (bdN (Below.refl _ _) nq))
        rcases Int.lt_trichotomy x y with g1 | g1 | g1
        · have HF := hd_ (by have := HN.out; rw [if_pos (show x <= y by omega), if_neg (show ¬ y <= x by omega)] at this; exact this)
          have t3 : decide (x <= y) = true := by simp; omega
          have t4 : decide (y <= x) = false := by simp; omega
          go_wp2_with fail
          go_roundg (l.length + m.length - (i + 1 + k))
          case measure => omega
          case rel => exact ⟨i + 1, k, v4, d2, rfl, by omega, by omega, by go_num, by go_num, hD4, hA4, by omega, HF.out.symm⟩
        · have HF := hd_ (by have := HN.out; rw [if_pos (show x <= y by omega), if_pos (show y <= x by omega)] at this; exact this)
          subst g1
          have t3 : decide (x <= x) = true := by simp
          go_wp2_with fail
          go_roundg (l.length + m.length - (i + 1 + k + 1))
          case measure => omega
          case rel => exact ⟨i + 1, k + 1, v4, d2, rfl, by omega, by omega, by go_num, by go_num, hD4, hA4, by omega, HF.out.symm⟩
        · have HF := hd_ (by have := HN.out; rw [if_neg (show ¬ x <= y by omega), if_pos (show y <= x by omega)] at this; exact this)
          have t3 : decide (x <= y) = false := by simp; omega
          have t4 : decide (y <= x) = true := by simp; omega
          go_wp2_with fail
          go_roundg (l.length + m.length - (i + k + 1))
          case measure => omega
          case rel => exact ⟨i, k + 1, v4, d2, rfl, by omega, by omega, by go_num, by go_num, hD4, hA4, by omega, HF.out.symm⟩
      · have E := HSD.out
        rw [if_pos (by simpa using huz)] at E
        have HE := hd_ E
        obtain ⟨a1, a2, a3⟩ := ne_facts huz
        clear E HSD huz
        go_wp2_with fail
        go_quiet (fail)
        go_wp2_with fail
        refine (dirt_add g base v' dd (max a b) (min x y) _ (HD1.out.drewN _) (by omega) hbs).mono ?_
        rintro e w4 ⟨rfl, v4, hD4, hA4⟩
        rw [<- HE.out] at hD4
        have hA4 := HA1.out.trans ((Adds.of_below (bdN (Below.refl _ _) _)).trans hA4)
        rcases Int.lt_trichotomy x y with g1 | g1 | g1
        · have HF := hd_ (by have := HN.out; rw [if_pos (show x <= y by omega), if_neg (show ¬ y <= x by omega)] at this; exact this)
          have t3 : decide (x <= y) = true := by simp; omega
          have t4 : decide (y <= x) = false := by simp; omega
          go_wp2_with fail
          go_roundg (l.length + m.length - (i + 1 + k))
          case measure => omega
          case rel => exact ⟨i + 1, k, v4, d2, rfl, by omega, by omega, by go_num, by go_num, hD4, hA4, by omega, HF.out.symm⟩
        · have HF := hd_ (by have := HN.out; rw [if_pos (show x <= y by omega), if_pos (show y <= x by omega)] at this; exact this)
          subst g1
          have t3 : decide (x <= x) = true := by simp
          go_wp2_with fail
          go_roundg (l.length + m.length - (i + 1 + k + 1))
          case measure => omega
          case rel => exact ⟨i + 1, k + 1, v4, d2, rfl, by omega, by omega, by go_num, by go_num, hD4, hA4, by omega, HF.out.symm⟩
        · have HF := hd_ (by have := HN.out; rw [if_neg (show ¬ x <= y by omega), if_pos (show y <= x by omega)] at this; exact this)
          have t3 : decide (x <= y) = false := by simp; omega
          have t4 : decide (y <= x) = true := by simp; omega
          go_wp2_with fail
          go_roundg (l.length + m.length - (i + k + 1))
          case measure => omega
          case rel => exact ⟨i, k + 1, v4, d2, rfl, by omega, by omega, by go_num, by go_num, hD4, hA4, by omega, HF.out.symm⟩
    · have HE := hd_ (HQ.out.symm.trans (diff_end hlt)).symm
      by_cases h1 : i < l.length
      · obtain rfl : k = m.length := by omega
        go_wp2_with fail
        go_end0
        exact ⟨rfl, v', by rw [<- HE.out]; exact hd, ha⟩
      · obtain rfl : i = l.length := by omega
        go_wp2_with fail
        go_end0
        exact ⟨rfl, v', by rw [<- HE.out]; exact hd, ha⟩
def lostTo (was now : Port) (k : Nat) : List Nat := (List.range k).filter (lostB was now)
theorem lostTo_yes {was now : Port} {k : Nat} (h : lostB was now k = true) : lostTo was now (k + 1) = lostTo was now k ++ [k] := by
  unfold lostTo; rw [List.range_succ, List.filter_append]; simp [h]
theorem lostTo_no {was now : Port} {k : Nat} (h : lostB was now k = false) : lostTo was now (k + 1) = lostTo was now k := by
  unfold lostTo; rw [List.range_succ, List.filter_append]; simp [h]
theorem lostTo_len (was now : Port) (k : Nat) : (lostTo was now k).length <= k := by
  have := List.length_filter_le (lostB was now) (List.range k)
  rwa [List.length_range] at this
theorem natsI_app (l : List Nat) (k : Nat) : natsI (l ++ [k]) = natsI l ++ [(k : Int)] := by simp [natsI]
theorem lost_not {was now : Port} {i : Nat} (h : (was.ship i).state ≠ 1) : lostB was now i = false := by simp [lostB, h]
theorem lost_out {was now : Port} {i : Nat} (h : (was.ship i).state = 1) (h2 : ¬ i < now.ships.length) : lostB was now i = true := by simp [lostB, h, show now.ships.length <= i by omega]
theorem lost_other {was now : Port} {i : Nat} (h : (was.ship i).state = 1) (h2 : (now.ship i).state ≠ 1) : lostB was now i = true := by simp [lostB, h, h2]
theorem lost_fresh {was now : Port} {i : Nat} (h : (was.ship i).state = 1) (h1 : i < now.ships.length) (h2 : (now.ship i).state = 1) : lostB was now i = freshB was now i := by
  simp [lostB, h, h2, show ¬ now.ships.length <= i by omega]
theorem lost_step {w W w' : World} {was now : Port} {A1 A2 : Option Addr} {c1 c2 : Nat} {l : List Int} {v : Value} (hO : OwnI W (w.heap.size + 2) v l) (hP : PortAt W w.heap.size was A1 c1) (hQ : PortAt W (w.heap.size + 1) now A2 c2)
    (hB : Below w.heap.size w W) (hg : W.grownBy w' v.ownBlock) : PortAt w' w.heap.size was A1 c1 /\ PortAt w' (w.heap.size + 1) now A2 c2 /\ Below w.heap.size w w' := by
  have h := grown_below (B := w.heap.size + 2) (Below.refl _ _) hg hO (Nat.le_refl _) hQ.lt
  exact ⟨hP.below h (by omega), hQ.below h (by omega), hB.trans (h.mono (by omega))⟩
set_option maxRecDepth 100000 in
theorem lost_any (was now : Port) (A1 A2 : Option Addr) (c1 c2 : Nat) (q : Value) (w : World) (hin1 : InP w was A1) (hin2 : InP w now A2) (hl : was.ships.length <= 100) :
    Calls Tryz.prog 75 #[.agg (portA was A1 c1), .agg (portA now A2 c2), q] w (RetInts (natsI (lostL was now)) w) := by
  simp only [portA]
  go_enter Tryz.func75, Tryz.ntmps75
  go_wp2_with fail
  have hP1 : PortAt (w.alloc (.cells (portA was A1 c1) 36)) w.heap.size was A1 c1 := PortAt.new w was A1 c1
  have hP2 : PortAt ((w.alloc (.cells (portA was A1 c1) 36)).alloc (.cells (portA now A2 c2) 36)) (w.heap.size + 1) now A2 c2 := by
    have := PortAt.new (w.alloc (.cells (portA was A1 c1) 36)) now A2 c2
    simpa using this
  have hP1' := hP1.alloc (.cells (portA now A2 c2) 36)
  have hB0 : Below w.heap.size w ((w.alloc (.cells (portA was A1 c1) 36)).alloc (.cells (portA now A2 c2) 36)) := ((Below.refl _ _).alloc (Nat.le_refl _) _).alloc (by simp) _
  simp only [portA] at hP1 hP2 hP1' hB0
  go_loopw [7, 13] (fun l i wr => ∃ (k : Nat) (L : Option Addr) (cL : Nat), k <= was.ships.length /\ i = .int .i64 k /\ l = .slice L (natsI (lostTo was now k)).length cL /\ OwnI wr (w.heap.size + 2) (.slice L (natsI (lostTo was now k)).length cL) (natsI (lostTo was now k)) /\ PortAt wr w.heap.size was A1 c1 /\ PortAt wr (w.heap.size + 1) now A2 c2 /\ Below w.heap.size w wr) (fun _ i _ => was.ships.length - (intOf i).toNat)
  case atStart => exact ⟨0, none, 0, Nat.zero_le _, rfl, rfl, OwnI.nil _ _, hP1', hP2, hB0⟩
  case round =>
    clear hP1 hP1' hP2 hB0
    obtain ⟨k, L, cL, hk, rfl, rfl, hO, hP, hQ, hB⟩ := hrel
    have q0 := hP.ships
    have q1 := hQ.ships
    have hglt := hP.lt
    have hqlt := hQ.lt
    have hll := lostTo_len was now k
    by_cases hlt : k < was.ships.length
    · obtain ⟨b, off, hA, hbl, hcells⟩ := ships_at (Sl.below hin1 hB) (by omega)
      subst hA
      obtain ⟨d1, d2, d3, d4, d5, d6⟩ := hcells k hlt
      clear hcells
      have HNOT := hd_ (@lost_not was now k)
      have HOUT := hd_ (@lost_out was now k)
      have HOTH := hd_ (@lost_other was now k)
      have HFRE := hd_ (@lost_fresh was now k)
      have HY := hd_ (@lostTo_yes was now k)
      have HN := hd_ (@lostTo_no was now k)
      have HSL := hd_ (Sl.below hin2 hB)
      have HSW := hd_ (Sl.below hin1 hB)
      have HO := hd_ hO
      have HP := hd_ hP
      have HQ := hd_ hQ
      clear hO
      change wr.cell? _ = some (.int .i64 (was.ship k).state) at d1
      change wr.cell? _ = some (.int .i64 (was.ship k).wide) at d2
      change wr.cell? _ = some (.int .i64 (was.ship k).long) at d3
      change wr.cell? _ = some (.int .i64 (was.ship k).cls) at d4
      change wr.cell? _ = some (.int .i64 (was.ship k).since) at d5
      change wr.cell? _ = some (.int .i64 (was.ship k).queued) at d6
      by_cases h1 : (was.ship k).state = 1
      · have hg : ∀ w5 : World, Below wr.heap.size wr w5 -> OwnI w5 (w.heap.size + 2) (.slice L (natsI (lostTo was now k)).length cL) (natsI (lostTo was now k)) /\ PortAt w5 w.heap.size was (some ⟨b, off, none⟩) c1 /\ PortAt w5 (w.heap.size + 1) now A2 c2 /\ Below w.heap.size w w5 :=
          fun w5 hb => ⟨HO.out.below hb, HP.out.below hb HP.out.lt, HQ.out.below hb HQ.out.lt, bG_ hB hb⟩
        by_cases h2 : k < now.ships.length
        · have t1 : decide ((k : Int) >= (now.ships.length : Int)) = false := by simpa using h2
          obtain ⟨b2, off2, hA2, hbl2, hcells2⟩ := ships_at HSL.out (by omega)
          subst hA2
          obtain ⟨f1, _⟩ := hcells2 k h2
          clear hcells2
          change wr.cell? _ = some (.int .i64 (now.ship k).state) at f1
          by_cases h3 : (now.ship k).state = 1
          · have HFR := hd_ (HFRE.out h1 h2 h3)
            clear HFRE HNOT HOUT HOTH
            generalize was.ship k = x at *
            obtain ⟨xs, xw, xl, xc, xi, xq⟩ := x
            generalize (now.ship k) = y at *
            obtain ⟨ys, yw, yl, yc, yi, yq⟩ := y
            dsimp only at *
            subst h1
            obtain ⟨z1, z2, z3, z4⟩ := hg _ ((Below.refl _ _).alloc (Nat.le_refl _) (.cells (shipV ⟨1, xw, xl, xc, xi, xq⟩) 61))
            clear hg
            subst h3
            have u0 := z2.cell 0
            have u1 := z2.cell 1
            have u2 := z2.cell 2
            have u3 := z2.cell 3
            have u4 := z2.cell 4
            have u5 := z2.cell 5
            have u6 := z2.cell 6
            have u7 := z2.cell 7
            have u8 := z2.cell 8
            have u9 := z2.cell 9
            have u10 := z2.cell 10
            have u11 := z2.cell 11
            have u12 := z2.cell 12
            have u13 := z2.cell 13
            have u14 := z2.cell 14
            have u15 := z2.cell 15
            have v0 := z3.cell 0
            have v1 := z3.cell 1
            have v2 := z3.cell 2
            have v3 := z3.cell 3
            have v4 := z3.cell 4
            have v5 := z3.cell 5
            have v6 := z3.cell 6
            have v7 := z3.cell 7
            have v8 := z3.cell 8
            have v9 := z3.cell 9
            have v10 := z3.cell 10
            have v11 := z3.cell 11
            have v12 := z3.cell 12
            have v13 := z3.cell 13
            have v14 := z3.cell 14
            have v15 := z3.cell 15
            simp only [portA, shipV] at u0 v0 u1 v1 u2 v2 u3 v3 u4 v4 u5 v5 u6 v6 u7 v7 u8 v8 u9 v9 u10 v10 u11 v11 u12 v12 u13 v13 u14 v14 u15 v15
            have HI1 := hd_ (HSW.out.alloc (.cells (shipV ⟨1, xw, xl, xc, xi, xq⟩) 61))
            have HI2 := hd_ (HSL.out.alloc (.cells (shipV ⟨1, xw, xl, xc, xi, xq⟩) 61))
            simp only [shipV] at HI1 HI2
            have HZ1 := hd_ z1
            have HZ2 := hd_ z2
            have HZ3 := hd_ z3
            have HZ4 := hd_ z4
            simp only [shipV] at HZ1 HZ2 HZ3 HZ4
            clear z1 z2 z3 z4
            cases hf : freshB was now k
            · have HF := hd_ hf
              have HL := hd_ (HN.out (HFR.out.trans hf))
              clear hf HFR HY HN
              go_wp2_with (go_at_call 77; refine (fresh_any was now _ _ c1 c2 k _ HI1.out HI2.out (fun _ => h2) hl (by omega)).mono ?_; rintro e w5 ⟨rfl, hb5⟩; rw [HF.out])
              go_roundw
              case rel => exact ⟨k + 1, L, cL, by omega, by go_num, by rw [HL.out], by rw [HL.out]; exact HZ1.out.below hb5, HZ2.out.below hb5 HZ2.out.lt, HZ3.out.below hb5 HZ3.out.lt, bG_ HZ4.out hb5⟩
              case measure => simp [intOf] <;> omega
            · have HF := hd_ hf
              have HL := hd_ (HY.out (HFR.out.trans hf))
              clear hf HFR HY HN
              go_wp2_with fail
              refine (fresh_any was now _ _ c1 c2 k _ HI1.out HI2.out (fun _ => h2) hl (by omega)).mono ?_
              rintro e w5 ⟨rfl, hb5⟩
              rw [HF.out]
              have z1 := HZ1.out.below hb5
              have z2 := HZ2.out.below hb5 HZ2.out.lt
              have z3 := HZ3.out.below hb5 HZ3.out.lt
              have z4 := bG_ HZ4.out hb5
              have hs5 : w.heap.size + 2 <= w5.heap.size := z3.lt
              have ho2 := z1.alloc (.cells #[.int .i64 k] 3)
              have HZ := hd_ (And.intro (z2.alloc (.cells #[.int .i64 k] 3)) (And.intro (z3.alloc (.cells #[.int .i64 k] 3)) (z4.alloc z4.size (.cells #[.int .i64 k] 3))))
              have hh : (w5.alloc (.cells #[.int .i64 k] 3)).heap[w5.heap.size]? = some (.cells #[.int .i64 k] 3 (0, 0)) := by
                have := heap_alloc_new w5 (.cells #[.int .i64 k] 3)
                simpa using this
              clear z1 z2 z3 z4
              go_wp2_with (at_builtin; refine wpList_append_int rfl _ _ rfl (w.heap.size + 2) _ _ rfl ho2 (w5.heap.size) 1 k rfl hh (by rw [nIl]; omega) (by simp; omega) ?_; intro v' w' ho' hg')
              have HW := lost_step ho2 HZ.out.1 HZ.out.2.1 HZ.out.2.2 hg'
              rw [<- natsI_app, <- HL.out] at ho'
              obtain ⟨L', c', rfl⟩ := own_form ho'
              have hfin : OwnI w' (w.heap.size + 2) (.slice L' (natsI (lostTo was now (k + 1))).length c') (natsI (lostTo was now (k + 1))) /\ _ := ⟨ho', HW⟩
              go_roundw
              case rel => exact ⟨k + 1, L', c', by omega, by go_num, rfl, hfin⟩
              case measure => simp [intOf] <;> omega
          · have HL := hd_ (HY.out (HOTH.out h1 h3))
            clear HFRE HNOT HOUT HOTH HY HN
            generalize was.ship k = x at *
            obtain ⟨xs, xw, xl, xc, xi, xq⟩ := x
            generalize (now.ship k) = y at *
            obtain ⟨ys, yw, yl, yc, yi, yq⟩ := y
            dsimp only at *
            subst h1
            obtain ⟨z1, z2, z3, z4⟩ := hg _ ((Below.refl _ _).alloc (Nat.le_refl _) (.cells (shipV ⟨1, xw, xl, xc, xi, xq⟩) 61))
            clear hg
            obtain ⟨a1, a2, a3⟩ := ne_facts h3
            have ho2 := z1.alloc (.cells #[.int .i64 k] 3)
            have HZ := hd_ (And.intro (z2.alloc (.cells #[.int .i64 k] 3)) (And.intro (z3.alloc (.cells #[.int .i64 k] 3)) (z4.alloc z4.size (.cells #[.int .i64 k] 3))))
            have hh : ((wr.alloc (.cells (shipV ⟨1, xw, xl, xc, xi, xq⟩) 61)).alloc (.cells #[.int .i64 k] 3)).heap[wr.heap.size + 1]? = some (.cells #[.int .i64 k] 3 (0, 0)) := by
              have := heap_alloc_new (wr.alloc (.cells (shipV ⟨1, xw, xl, xc, xi, xq⟩) 61)) (.cells #[.int .i64 k] 3)
              simpa using this
            simp only [shipV] at ho2 hh HZ
            clear z1 z2 z3 z4
            go_wp2_with (at_builtin; refine wpList_append_int rfl _ _ rfl (w.heap.size + 2) _ _ rfl ho2 (wr.heap.size + 1) 1 k rfl hh (by rw [nIl]; omega) (by simp; omega) ?_; intro v' w' ho' hg')
            have HW := lost_step ho2 HZ.out.1 HZ.out.2.1 HZ.out.2.2 hg'
            rw [<- natsI_app, <- HL.out] at ho'
            obtain ⟨L', c', rfl⟩ := own_form ho'
            have hfin : OwnI w' (w.heap.size + 2) (.slice L' (natsI (lostTo was now (k + 1))).length c') (natsI (lostTo was now (k + 1))) /\ _ := ⟨ho', HW⟩
            go_roundw
            case rel => exact ⟨k + 1, L', c', by omega, by go_num, rfl, hfin⟩
            case measure => simp [intOf] <;> omega
        · have HL := hd_ (HY.out (HOUT.out h1 h2))
          have t1 : decide ((k : Int) >= (now.ships.length : Int)) = true := by simpa using h2
          generalize was.ship k = x at *
          obtain ⟨xs, xw, xl, xc, xi, xq⟩ := x
          dsimp only at *
          subst h1
          obtain ⟨z1, z2, z3, z4⟩ := hg _ ((Below.refl _ _).alloc (Nat.le_refl _) (.cells (shipV ⟨1, xw, xl, xc, xi, xq⟩) 61))
          clear hg
          have ho2 := z1.alloc (.cells #[.int .i64 k] 3)
          have HZ := hd_ (And.intro (z2.alloc (.cells #[.int .i64 k] 3)) (And.intro (z3.alloc (.cells #[.int .i64 k] 3)) (z4.alloc z4.size (.cells #[.int .i64 k] 3))))
          have hh : ((wr.alloc (.cells (shipV ⟨1, xw, xl, xc, xi, xq⟩) 61)).alloc (.cells #[.int .i64 k] 3)).heap[wr.heap.size + 1]? = some (.cells #[.int .i64 k] 3 (0, 0)) := by
            have := heap_alloc_new (wr.alloc (.cells (shipV ⟨1, xw, xl, xc, xi, xq⟩) 61)) (.cells #[.int .i64 k] 3)
            simpa using this
          simp only [shipV] at ho2 hh HZ
          clear z1 z2 z3 z4
          go_wp2_with (at_builtin; refine wpList_append_int rfl _ _ rfl (w.heap.size + 2) _ _ rfl ho2 (wr.heap.size + 1) 1 k rfl hh (by rw [nIl]; omega) (by simp; omega) ?_; intro v' w' ho' hg')
          have HW := lost_step ho2 HZ.out.1 HZ.out.2.1 HZ.out.2.2 hg'
          rw [<- natsI_app, <- HL.out] at ho'
          obtain ⟨L', c', rfl⟩ := own_form ho'
          have hfin : OwnI w' (w.heap.size + 2) (.slice L' (natsI (lostTo was now (k + 1))).length c') (natsI (lostTo was now (k + 1))) /\ _ := ⟨ho', HW⟩
          go_roundw
          case rel => exact ⟨k + 1, L', c', by omega, by go_num, rfl, hfin⟩
          case measure => simp [intOf] <;> omega
      · obtain ⟨a1, a2, a3⟩ := ne_facts h1
        have HL := hd_ (HN.out (HNOT.out h1))
        generalize was.ship k = x at *
        obtain ⟨xs, xw, xl, xc, xi, xq⟩ := x
        dsimp only at *
        go_wp2_with fail
        go_roundw
        case rel => exact ⟨k + 1, L, cL, by omega, by go_num, by rw [HL.out], by rw [HL.out]; exact HO.out.alloc _, HP.out.alloc _, HQ.out.alloc _, hB.alloc hB.size _⟩
        case measure => simp [intOf] <;> omega
    · obtain rfl : k = was.ships.length := by omega
      go_wp2_with fail
      go_ret
      exact ⟨L, cL, rfl, Sl.of_own hO, hB, (fr_own hO).mono (by omega)⟩
theorem diff_len (l m : Prof) (d : Dirt) : (diff l m d).length <= d.length + l.length + m.length := by
  induction l, m, d using diff.induct with
  | case1 m d => simp [diff]
  | case2 s l d => simp [diff]
  | case3 a x r b y s d hlt ih =>
    rw [diff, if_pos hlt]
    by_cases hx : x ≠ y
    · rw [dif_pos hx] at ih
      rw [if_pos hx]
      have h2 := addD_len d (max a b) (min (nextAt r) (nextAt s))
      simp only [List.length_cons] at ih ⊢; omega
    · rw [dif_neg hx] at ih
      rw [if_neg hx]
      simp only [List.length_cons] at ih ⊢; omega
  | case4 a x r b y s d h1 hlt ih =>
    rw [diff, if_neg h1, if_pos hlt]
    by_cases hx : x ≠ y
    · rw [dif_pos hx] at ih
      rw [if_pos hx]
      have h2 := addD_len d (max a b) (min (nextAt r) (nextAt s))
      simp only [List.length_cons] at ih ⊢; omega
    · rw [dif_neg hx] at ih
      rw [if_neg hx]
      simp only [List.length_cons] at ih ⊢; omega
  | case5 a x r b y s d h1 h2 ih =>
    rw [diff, if_neg h1, if_neg h2]
    by_cases hx : x ≠ y
    · rw [dif_pos hx] at ih
      rw [if_pos hx]
      have h2 := addD_len d (max a b) (min (nextAt r) (nextAt s))
      simp only [List.length_cons] at ih ⊢; omega
    · rw [dif_neg hx] at ih
      rw [if_neg hx]
      simp only [List.length_cons] at ih ⊢; omega
theorem place_range {was : Port} {plan : List Int} (h : PGood was) (hp : IsPlan was plan) (i : Nat) : -1 <= place plan i /\ place plan i <= 300 := by
  unfold place
  by_cases hi : i < was.ships.length
  · by_cases hs : (was.ship i).state = 1
    · rcases First.none_or h.now.1 (hp.first i hi hs) with e | ⟨_, e1, e2⟩
      · omega
      · have := e2.1; have := ((h.ship i hi).1).long; omega
    · have := hp.other i hi hs; omega
  · rw [List.getD_eq_getElem?_getD, List.getElem?_eq_none (by rw [hp.len]; omega)]; simp
def mend0 (was now : Port) (plan : List Int) : MSt := ⟨(baseL now).1, leftD was plan (dirt0 was now) (lostL was now), noneL now.ships.length, 0⟩
def mendAt (was now : Port) (plan : List Int) (k : Nat) : MSt := ((rankL now).take k).foldl (mendStep was now plan) (mend0 was now plan)
theorem mendAt_next {was now : Port} {plan : List Int} {k : Nat} (h : k < (rankL now).length) : mendAt was now plan (k + 1) = mendStep was now plan (mendAt was now plan k) ((rankL now).getD k 0) := by
  unfold mendAt
  rw [List.take_add_one, List.getElem?_eq_getElem h, Option.toList_some, List.foldl_append, List.getD_eq_getElem?_getD, List.getElem?_eq_getElem h]; rfl
theorem mendAt_all {was now : Port} {plan : List Int} (h : (baseL now).2 = true) : ((mendAt was now plan (rankL now).length).out, (mendAt was now plan (rankL now).length).n) = mendL was now plan (rankL now) := by
  unfold mendAt mendL
  rw [List.take_length, if_pos h]; rfl
theorem mend0_inv {was now : Port} {plan : List Int} (hwas : PGood was) (hnow : PGood now) : MInv was now plan (rankL now) [] (rankL now) (mend0 was now plan) := by
  have hb := (base_good hnow.toFair).1.2 hnow.room
  obtain ⟨g1, g2⟩ := (base_good hnow.toFair).2 hb
  have hbw := (base_good hwas.toFair).1.2 hwas.room
  obtain ⟨w1, w2⟩ := (base_good hwas.toFair).2 hbw
  unfold mend0
  refine ⟨g1, fun u u0 u1 => by simp [g2 u u0 u1], by simp [noneL], fun j _ => getD_none _ _, rfl, fun u u0 u1 hu => ?_, fun u u0 u1 hu j hj hl => ?_, fun u _ _ _ j hj => by simp at hj, Int.le_refl _, by simp⟩
  · have hu : ¬ InD (dirt0 was now) u := fun h => hu (leftD_keeps _ _ _ _ _ h)
    unfold dirt0 at hu
    by_cases hc : was.now = now.now
    · rw [if_pos ⟨hbw, hc⟩] at hu
      refine ⟨?_, hc⟩
      rw [<- w2 u u0 u1, <- g2 u u0 u1]
      exact diff_good w1 g1 u u0 u1 hu
    · rw [if_neg (fun h => hc h.2)] at hu
      exact absurd (inD_add u0 u1) hu
  · refine Classical.byContradiction fun hc => hu (leftD_covers was plan u _ _ j ?_ hc)
    simp only [lostL, List.mem_filter, List.mem_range]
    exact ⟨hj, hl⟩
theorem mendAt_inv {was now : Port} {plan : List Int} (hwas : PGood was) (hnow : PGood now) (hp : IsPlan was plan) : ∀ k, k <= (rankL now).length -> MInv was now plan (rankL now) ((rankL now).take k) ((rankL now).drop k) (mendAt was now plan k)
  | 0, _ => by simpa [mendAt] using mend0_inv hwas hnow
  | k + 1, hk => by
    have ih := mendAt_inv hwas hnow hp k (by omega)
    have hlt : k < (rankL now).length := by omega
    have hd : (rankL now).drop k = (rankL now).getD k 0 :: (rankL now).drop (k + 1) := by
      rw [List.drop_eq_getElem_cons hlt, List.getD_eq_getElem?_getD, List.getElem?_eq_getElem hlt]; rfl
    rw [hd] at ih
    have := minv_step hwas hnow hp (rankL_is hnow) (by rw [<- hd, List.take_append_drop]) ih
    rw [mendAt_next hlt]
    have ht : (rankL now).take (k + 1) = (rankL now).take k ++ [(rankL now).getD k 0] := by
      rw [List.take_add_one, List.getElem?_eq_getElem hlt, List.getD_eq_getElem?_getD, List.getElem?_eq_getElem hlt]; rfl
    rw [ht]; exact this
theorem leftD_next (was : Port) (plan : List Int) (d : Dirt) (xs : List Nat) (x : Nat) : leftD was plan d (xs ++ [x]) = gone (leftD was plan d xs) (place plan x) (was.ship x).long := by
  unfold leftD; rw [List.foldl_append]; rfl
theorem leftD_len (was : Port) (plan : List Int) (xs : List Nat) : ∀ d, (leftD was plan d xs).length <= d.length + xs.length := by
  induction xs with
  | nil => intro d; simp [leftD]
  | cons x xs ih =>
    intro d
    have h1 := ih (gone d (place plan x) (was.ship x).long)
    have h2 := gone_len d (place plan x) (was.ship x).long
    have : leftD was plan d (x :: xs) = leftD was plan (gone d (place plan x) (was.ship x).long) xs := rfl
    rw [this, List.length_cons]; omega
theorem movedD_len (was now : Port) (d : Dirt) (i : Nat) (old t : Int) : (movedD was now d i old t).length <= d.length + 2 := by
  rw [movedD_eq]; unfold movedS
  split
  · omega
  · have h1 := gone_len d old (longS was i (now.ship i))
    have h2 := gone_len (gone d old (longS was i (now.ship i))) t (now.ship i).long
    omega
theorem mendAt_len (was now : Port) (plan : List Int) : ∀ k, k <= (rankL now).length -> (mendAt was now plan k).d.length <= (mend0 was now plan).d.length + 2 * k
  | 0, _ => by simp [mendAt]
  | k + 1, hk => by
    have ih := mendAt_len was now plan k (by omega)
    rw [mendAt_next (by omega)]
    have hs : ∀ (st : MSt) (i : Nat) (t : Int), (setT now st i t).d = st.d := fun _ _ _ => rfl
    unfold mendStep
    split
    · rw [hs]; have := movedD_len was now (mendAt was now plan k).d ((rankL now).getD k 0) (place plan ((rankL now).getD k 0)) (fitL (mendAt was now plan k).b (max 0 now.now) (now.ship ((rankL now).getD k 0)).long (now.ship ((rankL now).getD k 0)).wide)
      show List.length (movedD _ _ _ _ _ _) <= _
      omega
    · rw [hs]; omega
theorem lost_get {was now : Port} {k : Nat} (h : k < (lostL was now).length) : (lostL was now).getD k 0 < was.ships.length := by
  rw [List.getD_eq_getElem?_getD, List.getElem?_eq_getElem h]
  have := List.getElem_mem h
  unfold lostL at this
  simp only [List.mem_filter, List.mem_range] at this
  exact this.1
theorem left_next {was now : Port} {plan : List Int} {d : Dirt} {k : Nat} (h : k < (lostL was now).length) :
    leftD was plan d ((lostL was now).take (k + 1)) = gone (leftD was plan d ((lostL was now).take k)) (place plan ((lostL was now).getD k 0)) (was.ship ((lostL was now).getD k 0)).long := by
  rw [<- leftD_next, List.take_add_one, List.getElem?_eq_getElem h, List.getD_eq_getElem?_getD, List.getElem?_eq_getElem h]; rfl
theorem lost_le (was now : Port) : (lostL was now).length <= was.ships.length := by
  have := List.length_filter_le (lostB was now) (List.range was.ships.length)
  rwa [List.length_range] at this
theorem dirt0_len (was now : Port) (h1 : (baseL was).1.length <= 300) (h2 : (baseL now).1.length <= 300) : (dirt0 was now).length <= 600 := by
  unfold dirt0
  split
  · have := diff_len (baseL was).1 (baseL now).1 []
    simp at this; omega
  · have := addD_len [] 0 300
    simp at this; omega
def stepT (was now : Port) (plan : List Int) (st : MSt) (j : Nat) : Int := if againB was now plan st.d j = true then fitL st.b (max 0 now.now) (now.ship j).long (now.ship j).wide else place plan j
def stepN (was now : Port) (plan : List Int) (st : MSt) (j : Nat) : Int := if againB was now plan st.d j = true then st.n + 1 else st.n
def stepDd (was now : Port) (plan : List Int) (st : MSt) (j : Nat) : Dirt := if againB was now plan st.d j = true then movedD was now st.d j (place plan j) (fitL st.b (max 0 now.now) (now.ship j).long (now.ship j).wide) else st.d
theorem mendStep_eq (was now : Port) (plan : List Int) (st : MSt) (j : Nat) : mendStep was now plan st j = setT now { st with n := stepN was now plan st j, d := stepDd was now plan st j } j (stepT was now plan st j) := by
  unfold mendStep stepN stepDd stepT
  by_cases h : againB was now plan st.d j = true
  · simp only [if_pos h]
  · simp only [if_neg h]
theorem stepT_range {was now : Port} {plan : List Int} {st : MSt} {j : Nat} (hwas : PGood was) (hnow : PGood now) (hp : IsPlan was plan) (hg : Plain.Good st.b) (hj : j < now.ships.length) : -1 <= stepT was now plan st j /\ stepT was now plan st j <= 300 := by
  unfold stepT
  split
  · have := ((hnow.ship j hj).1).long
    rcases planAt_fits hnow hg hj with e | e <;> omega
  · exact place_range hwas hp j
theorem dirt_new (w : World) : DirtAt (w.alloc (.cells #[.slice none 0 0] 120)) w.heap.size (w.heap.size + 1) (.slice none 0 0) [] :=
  ⟨heap_alloc_new w _, Nat.lt_succ_self _, ⟨rfl, .inl ⟨rfl, rfl⟩⟩⟩
structure MS (w wq : World) (was now : Port) (A1 A2 : Option Addr) (c1 c2 g : Nat) (vd : Value) (dd : Dirt) (out : List Int) (A4 : Option Addr) (b : Prof) (A3 : Option Addr) (q : List Int) : Prop where
  pw : PortAt wq w.heap.size was A1 c1
  pn : PortAt wq (w.heap.size + 1) now A2 c2
  io : Ints wq (w.heap.size + 2) out
  dt : DirtAt wq g (g + 1) vd dd
  gg : w.heap.size + 3 <= g
  bl : Below w.heap.size w wq
  sb : Sl wq 2 A4 b.length (stC b)
  ob : Off wq g vd A4 b.length
  fb : Fr (w.heap.size + 3) A4
  sq : Sl wq 1 A3 q.length (q.map (Value.int .i64))
  oq : Off wq g vd A3 q.length
  fq : Fr (w.heap.size + 3) A3
structure SA (w wq : World) (g : Nat) (v : Value) (g23 : Nat) (s : Ship) : Prop where
  at_ : wq.heap[g23]? = some (.cells (shipV s) 61 (0, 0))
  ne : g23 ≠ g
  own : some g23 ≠ v.ownBlock
  lo : w.heap.size + 3 <= g23
section
variable {w wq w' : World} {g g23 : Nat} {v v' : Value} {s : Ship}
theorem SA.size (h : SA w wq g v g23 s) : g23 < wq.heap.size := (Array.getElem?_eq_some_iff.1 h.at_).1
theorem SA.adds (h : SA w wq g v g23 s) (ha : Adds g wq w' v v') : SA w w' g v' g23 s := by
  refine ⟨(ha.block g23 h.size h.ne h.own).trans h.at_, h.ne, ?_, h.lo⟩
  rcases ha.own with e | ⟨j, e, hj⟩
  · rw [e]; exact h.own
  · rw [e]; intro e2; cases e2; have := h.size; omega
theorem SA.below (h : SA w wq g v g23 s) (hb : Below wq.heap.size wq w') : SA w w' g v g23 s := h.adds (.of_below hb)
theorem SA.set (h : SA w wq g v g23 s) (j : Nat) (u : Value) : SA w (wq.setCell ⟨w.heap.size + 2, j, none⟩ u) g v g23 s := ⟨(Below.heap_setCell wq _ _ _ (by have := h.lo; simp; omega)).trans h.at_, h.ne, h.own, h.lo⟩
theorem SA.cell (h : SA w wq g v g23 s) (j : Nat) : wq.cell? ⟨g23, j, none⟩ = (shipV s)[j]? := by rw [cell_of_row wq g23 j _ _ _ h.at_]
end
section
variable {w wq w' : World} {was now : Port} {A1 A2 : Option Addr} {c1 c2 g : Nat} {vd vd' : Value} {dd dd' : Dirt} {out : List Int} {A4 A7 : Option Addr} {b b' : Prof} {A3 : Option Addr} {q : List Int}
theorem MS.adds (h : MS w wq was now A1 A2 c1 c2 g vd dd out A4 b A3 q) (hd : DirtAt w' g (g + 1) vd' dd') (ha : Adds g wq w' vd vd') : MS w w' was now A1 A2 c1 c2 g vd' dd' out A4 b A3 q := by
  have hb : Below g wq w' := ha.below h.dt (Nat.le_refl _)
  have hg := h.gg
  exact ⟨h.pw.below hb (by omega), h.pn.below hb (by omega), h.io.below hb (by omega), hd, hg, h.bl.trans (hb.mono (by omega)), h.sb.adds h.ob ha, h.ob.adds ha, h.fb, h.sq.adds h.oq ha, h.oq.adds ha, h.fq⟩
theorem MS.below (h : MS w wq was now A1 A2 c1 c2 g vd dd out A4 b A3 q) (hb : Below wq.heap.size wq w') : MS w w' was now A1 A2 c1 c2 g vd dd out A4 b A3 q := h.adds (h.dt.below hb) (.of_below hb)
theorem MS.alloc (h : MS w wq was now A1 A2 c1 c2 g vd dd out A4 b A3 q) (o : Obj) : MS w (wq.alloc o) was now A1 A2 c1 c2 g vd dd out A4 b A3 q := h.below ((Below.refl _ _).alloc (Nat.le_refl _) _)
theorem MS.set (h : MS w wq was now A1 A2 c1 c2 g vd dd out A4 b A3 q) (j : Nat) (t : Int) : MS w (wq.setCell ⟨w.heap.size + 2, j, none⟩ (.int .i64 t)) was now A1 A2 c1 c2 g vd dd (out.set j t) A4 b A3 q := by
  have hg := h.gg
  have hz : (wq.setCell ⟨w.heap.size + 2, j, none⟩ (.int .i64 t)).heap.size = wq.heap.size := by simp [World.setCell]
  exact ⟨(Below.heap_setCell wq _ _ _ (by simp)).trans h.pw, (Below.heap_setCell wq _ _ _ (by simp)).trans h.pn, h.io.set j t, h.dt.beside _ _ (by simp; omega), hg, h.bl.setCell (by simp) _,
    h.sb.beside h.fb _, h.ob.size (by rw [hz]; exact Nat.le_refl _), h.fb, h.sq.beside h.fq _, h.oq.size (by rw [hz]; exact Nat.le_refl _), h.fq⟩
theorem MS.rank {A6 : Option Addr} {q' : List Int} (h : MS w wq was now A1 A2 c1 c2 g vd dd out A4 b A3 q) (hb : Below wq.heap.size wq w') (hs : Sl w' 1 A6 q'.length (q'.map (Value.int .i64))) (hf : Fr wq.heap.size A6) : MS w w' was now A1 A2 c1 c2 g vd dd out A4 b A6 q' := by
  have h2 := h.below hb
  exact ⟨h2.pw, h2.pn, h2.io, h2.dt, h2.gg, h2.bl, h2.sb, h2.ob, h2.fb, hs, Off.new hs (by omega) hf h.dt, hf.mono h.io.lt⟩
theorem MS.prof (h : MS w wq was now A1 A2 c1 c2 g vd dd out A4 b A3 q) (hb : Below wq.heap.size wq w') (hs : Sl w' 2 A7 b'.length (stC b')) (hf : A7 = A4 \/ Fr wq.heap.size A7) (hl : 0 < b.length) : MS w w' was now A1 A2 c1 c2 g vd dd out A7 b' A3 q := by
  have h2 := h.below hb
  refine ⟨h2.pw, h2.pn, h2.io, h2.dt, h2.gg, h2.bl, hs, ?_, fr_or hf h.fb (by have := h.io.lt; omega), h2.sq, h2.oq, h2.fq⟩
  rcases hf with rfl | hf
  · exact fun _ => h2.ob hl
  · exact Off.new hs (by omega) hf h.dt
theorem MS.ship (h : MS w wq was now A1 A2 c1 c2 g vd dd out A4 b A3 q) (s : Ship) : SA w (wq.alloc (.cells (shipV s) 61)) g vd wq.heap.size s := by
  have h1 := h.dt.size
  refine ⟨heap_alloc_new wq _, by omega, fun e => ?_, h.io.lt⟩
  have := h.dt.own.block _ e.symm; omega
end
end Go.Proofs.YtifmdkcpbajdcabGreatDoor
