/- Walks: where one has moved, something is dirty. -/
import Derived.Test.YtifmdkcpbajdcabMendW
import Derived.BigQuiet
namespace Go.Proofs.Ytifmdkcpbajdcab
open Go.RowKit Go.Proofs Plain

def longS (was : Port) (i : Nat) (s : Ship) : Int := if i < was.ships.length then (was.ship i).long else s.long
def wideS (was : Port) (i : Nat) (s : Ship) : Int := if i < was.ships.length then (was.ship i).wide else s.wide
def gone (d : Dirt) (old long : Int) : Dirt := if 0 ≤ old then addD d old (old + long) else d
def movedS (was : Port) (d : Dirt) (i : Nat) (old t : Int) (s : Ship) : Dirt :=
  if old = t ∧ longS was i s = s.long ∧ wideS was i s = s.wide then d else gone (gone d old (longS was i s)) t s.long
theorem movedD_eq (was now : Port) (d : Dirt) (i : Nat) (old t : Int) : movedD was now d i old t = movedS was d i old t (now.ship i) := rfl
theorem addD_len (d : Dirt) (a b : Int) : (addD d a b).length ≤ d.length + 1 := by
  unfold addD; split
  · simp
  · omega
theorem gone_len (d : Dirt) (a b : Int) : (gone d a b).length ≤ d.length + 1 := by
  unfold gone; split
  · exact addD_len _ _ _
  · omega

/-- What is dirty, and a ship's variable beside it. -/
structure MvD (w wq : World) (g base : Nat) (v v' : Value) (d' : Dirt) (g11 : Nat) (wd lg : Int) : Prop where
  dirt : DirtAt wq g base v' d'
  adds : Adds g w wq v v'
  ne : v'.ownBlock ≠ some g11
  lt : g11 < wq.heap.size
  ge : w.heap.size ≤ g11
  wide : wq.cell? ⟨g11, 1, none⟩ = some (.int .i64 wd)
  long : wq.cell? ⟨g11, 2, none⟩ = some (.int .i64 lg)

section
variable {w wq w' : World} {g base : Nat} {v v' v'' : Value} {d' d'' : Dirt} {g11 : Nat} {wd lg : Int}
theorem MvD.next (h : MvD w wq g base v v' d' g11 wd lg) (hg : g < w.heap.size) (hd : DirtAt w' g base v'' d'') (ha : Adds g wq w' v' v'') : MvD w w' g base v v'' d'' g11 wd lg := by
  have hc : w'.heap[g11]? = wq.heap[g11]? := ha.block g11 h.lt (by have := h.ge; omega) (fun e => h.ne e.symm)
  refine ⟨hd, h.adds.trans ha, ?_, Nat.lt_of_lt_of_le h.lt ha.size, h.ge, (World.cell?_of_block (w := wq) hc).trans h.wide, (World.cell?_of_block (w := wq) hc).trans h.long⟩
  rcases ha.own with e | ⟨j, e, hj⟩
  · rw [e]; exact h.ne
  · rw [e]; intro e2; cases e2; have := h.lt; omega
theorem MvD.below (h : MvD w wq g base v v' d' g11 wd lg) (hg : g < w.heap.size) (hb : Below wq.heap.size wq w') : MvD w w' g base v v' d' g11 wd lg := h.next hg (h.dirt.below hb) (.of_below hb)
theorem MvD.start (hd : DirtAt w g base v d') (hb : Below w.heap.size w wq) (h1 : g11 < wq.heap.size) (h2 : w.heap.size ≤ g11) (h3 : wq.cell? ⟨g11, 1, none⟩ = some (.int .i64 wd)) (h4 : wq.cell? ⟨g11, 2, none⟩ = some (.int .i64 lg)) :
    MvD w wq g base v v d' g11 wd lg := ⟨hd.below hb, .of_below hb, fun e => by have := hd.own.block g11 e; omega, h1, h2, h3, h4⟩
end

set_option maxRecDepth 100000 in
set_option maxHeartbeats 20000000 in
theorem moved_any (g base : Nat) (v : Value) (d : Dirt) (was : Port) (A : Option Addr) (c i : Nat) (old t : Int) (s : Ship) (w : World) (h : DirtAt w g base v d) (hl : d.length ≤ 40000) (hb : base ≤ w.heap.size)
    (hin : InP w was A) (hln : was.ships.length ≤ 100) (hi : i ≤ 100) (hold : -1000 ≤ old ∧ old ≤ 1000) (ht : -1000 ≤ t ∧ t ≤ 1000) (hs : 0 ≤ s.long ∧ s.long ≤ 1000) (hw : i < was.ships.length → 0 ≤ (was.ship i).long ∧ (was.ship i).long ≤ 1000) :
    Calls Try.prog 44 #[.pointer (some ⟨g, 0, none⟩), .agg (portA was A c), .int .i64 i, .int .i64 old, .int .i64 t, .agg (shipV s)] w (RetDirt g base v (movedS was d i old t s) w) := by
  obtain ⟨st, wd, lg, cl, si, qu⟩ := s
  dsimp only at hs
  have hL : 0 ≤ longS was i ⟨st, wd, lg, cl, si, qu⟩ ∧ longS was i ⟨st, wd, lg, cl, si, qu⟩ ≤ 1000 := by
    unfold longS; split
    · exact hw (by assumption)
    · exact hs
  have HR := Lib.hid (show movedS was d i old t ⟨st, wd, lg, cl, si, qu⟩ = if old = t ∧ longS was i ⟨st, wd, lg, cl, si, qu⟩ = lg ∧ wideS was i ⟨st, wd, lg, cl, si, qu⟩ = wd then d else gone (gone d old (longS was i ⟨st, wd, lg, cl, si, qu⟩)) t lg from rfl)
  have HIN := Lib.hid (fun h : i < was.ships.length => And.intro (show longS was i ⟨st, wd, lg, cl, si, qu⟩ = (was.ship i).long by unfold longS; rw [if_pos h]) (show wideS was i ⟨st, wd, lg, cl, si, qu⟩ = (was.ship i).wide by unfold wideS; rw [if_pos h]))
  have HOUT := Lib.hid (fun h : ¬ i < was.ships.length => And.intro (show longS was i ⟨st, wd, lg, cl, si, qu⟩ = lg by unfold longS; rw [if_neg h]) (show wideS was i ⟨st, wd, lg, cl, si, qu⟩ = wd by unfold wideS; rw [if_neg h]))
  generalize movedS was d i old t ⟨st, wd, lg, cl, si, qu⟩ = D at *
  generalize longS was i ⟨st, wd, lg, cl, si, qu⟩ = LG at *
  generalize wideS was i ⟨st, wd, lg, cl, si, qu⟩ = WD at *
  simp only [portA, shipV]
  have hH := Lib.hid h
  have hgs := h.size
  clear h
  go_enter Try.func44, Try.ntmps44
  go_upto_region 1 with fail
  go_cut [7, 11, 12, 13] (fun v7 v11 v12 v13 wc => ∃ g7 g11, v7 = .pointer (some ⟨g7, 0, none⟩) ∧ v11 = .pointer (some ⟨g11, 0, none⟩) ∧ v12 = .int .i64 lg ∧ v13 = .int .i64 wd ∧ Below w.heap.size w wc ∧ w.heap.size ≤ g11 ∧ g11 < wc.heap.size ∧ wc.cell? ⟨g7, 1, none⟩ = some (.slice A was.ships.length c) ∧ wc.cell? ⟨g11, 1, none⟩ = some (.int .i64 wd) ∧ wc.cell? ⟨g11, 2, none⟩ = some (.int .i64 lg))
  case first => as_aux_lemma =>
    go_quiet (fail)
    go_wp2_with fail
    go_meet
    exact ⟨_, _, rfl, rfl, rfl, rfl, below_drewN (((Below.refl _ _).alloc (Nat.le_refl _) _).alloc (by simp) _) _, by simp, by simp, by simp, by simp, by simp⟩
  obtain ⟨g7, g11, rfl, rfl, rfl, rfl, hB, hg11, hg11', k7, k1, k2⟩ := hcut
  have hM := MvD.start hH.out hB hg11' hg11 k1 k2
  go_upto_if 22 with fail
  go_cut [12, 13] (fun v12 v13 wq => v12 = .int .i64 LG ∧ v13 = .int .i64 WD ∧ MvD w wq g base v v d g11 wd lg)
  case first => as_aux_lemma =>
    by_cases hlt : i < was.ships.length
    · have t1 : decide ((i : Int) < (was.ships.length : Int)) = true := by simpa using hlt
      obtain ⟨b, off, hA, hbl, hcells⟩ := ships_at (Sl.below hin hB) (by omega)
      subst hA
      obtain ⟨d1, d2, d3, d4, d5, d6⟩ := hcells i hlt
      clear hcells
      change wc.cell? _ = some (.int .i64 (was.ship i).wide) at d2
      change wc.cell? _ = some (.int .i64 (was.ship i).long) at d3
      obtain ⟨e1, e2⟩ := HIN.out hlt
      have E := Lib.hid (And.intro e1 e2)
      clear e1 e2
      go_wp2_with fail
      go_quiet (fail)
      go_wp2_with fail
      go_meet
      exact ⟨by rw [E.out.1], by rw [E.out.2], hM.below hgs (below_drewN (Below.refl _ _) _)⟩
    · have t1 : decide ((i : Int) < (was.ships.length : Int)) = false := by simpa using hlt
      have E := Lib.hid (HOUT.out hlt)
      go_wp2_with fail
      go_meet
      exact ⟨by rw [E.out.1], by rw [E.out.2], hM⟩
  clear hB hg11 hg11' k7 k1 k2 hM
  obtain ⟨rfl, rfl, hM⟩ := hcut
  have k1 := hM.wide
  have k2 := hM.long
  by_cases hsame : old = t ∧ LG = lg ∧ WD = wd
  · obtain ⟨rfl, rfl, rfl⟩ := hsame
    go_wp2_with fail
    refine bodyPost_ret (results_none rfl _ _ _) rfl ?_
    exact ⟨rfl, v, by rw [HR.out, if_pos (by simp)]; exact hM.dirt, hM.adds⟩
  · have HD := Lib.hid (HR.out.trans (if_neg hsame))
    go_upto_region 4 with fail
    go_cut [49] (fun v49 wq => v49 = .bool false ∧ MvD w wq g base v v d g11 wd lg)
    case first => as_aux_lemma =>
      by_cases n1 : old = t
      · by_cases n2 : LG = lg
        · have n3 : WD ≠ wd := fun e => hsame ⟨n1, n2, e⟩
          obtain ⟨a1, a2, a3⟩ := ne_facts n3
          clear hsame
          subst n1 n2
          go_wp2_with fail
          go_meet
          exact ⟨rfl, hM⟩
        · clear hsame
          subst n1
          obtain ⟨a1, a2, a3⟩ := ne_facts n2
          go_wp2_with fail
          go_meet
          exact ⟨rfl, hM⟩
      · clear hsame
        obtain ⟨a1, a2, a3⟩ := ne_facts n1
        go_wp2_with fail
        go_meet
        exact ⟨rfl, hM⟩
    clear hM k1 k2
    obtain ⟨rfl, hM⟩ := hcut
    go_upto_if 51 with fail
    go_cut [3] (fun v3 wq => v3 = .int .i64 old ∧ ∃ v', MvD w wq g base v v' (gone d old LG) g11 wd lg)
    case first => as_aux_lemma =>
      by_cases h0 : 0 ≤ old
      · have t1 : decide (old ≥ 0) = true := by simpa using h0
        have HG := Lib.hid (show gone d old LG = addD d old (old + LG) by unfold gone; rw [if_pos h0])
        go_wp2_with (go_at_call 39; refine (dirt_add g base v d old (old + LG) _ hM.dirt (by omega) (Nat.le_trans hb hM.adds.size)).mono ?_; rintro e w4 ⟨rfl, v4, hD4, hA4⟩)
        go_meet
        exact ⟨rfl, v4, by rw [HG.out]; exact hM.next hgs hD4 hA4⟩
      · have t1 : decide (old ≥ 0) = false := by simpa using h0
        have HG := Lib.hid (show gone d old LG = d by unfold gone; rw [if_neg h0])
        go_wp2_with fail
        go_meet
        exact ⟨rfl, v, by rw [HG.out]; exact hM⟩
    clear hM
    obtain ⟨rfl, v', hM⟩ := hcut
    have k2 := hM.long
    have hlen := gone_len d old LG
    have HD2 := Lib.hid HD.out
    generalize gone d old LG = dd at *
    by_cases h0 : 0 ≤ t
    · have t1 : decide (t ≥ 0) = true := by simpa using h0
      have HG := Lib.hid (show gone dd t lg = addD dd t (t + lg) by unfold gone; rw [if_pos h0])
      go_wp2_with (go_at_call 39; refine (dirt_add g base v' dd t (t + lg) _ hM.dirt (by omega) (Nat.le_trans hb hM.adds.size)).mono ?_; rintro e w4 ⟨rfl, v4, hD4, hA4⟩)
      go_end0
      exact ⟨rfl, v4, by rw [HD2.out, HG.out]; exact hD4, hM.adds.trans hA4⟩
    · have t1 : decide (t ≥ 0) = false := by simpa using h0
      have HG := Lib.hid (show gone dd t lg = dd by unfold gone; rw [if_neg h0])
      go_wp2_with fail
      go_end0
      exact ⟨rfl, v', by rw [HD2.out, HG.out]; exact hM.dirt, hM.adds⟩
end Go.Proofs.Ytifmdkcpbajdcab
